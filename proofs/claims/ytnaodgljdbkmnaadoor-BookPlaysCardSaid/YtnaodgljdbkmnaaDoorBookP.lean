/- the document's book: find, late -/
import Derived.Test.YtnaodgljdbkmnaaDoorBookJ
namespace Go.Proofs.YtnaodgljdbkmnaaDoor
set_option linter.unusedVariables false
open Go.RowKit
/-- the document's book: the same bills in one row -/
structure DBookAt (w : World) (base db : Nat) (v : Value) (L : List Ent) : Prop where
  dbk : w.heap[db]? = some (.cells #[v] 69 (0, 0))
  own : w.ownsRow base 101 8 v L.length (billCells L)
  h1 : base ≤ db
/-- bills that may be -/
structure Nice (L : List Ent) : Prop where
  uni : (L.map (·.2.hash)).Nodup
  few : L.length ≤ 256
  ok : ∀ e ∈ L, BilOk e.2
theorem BookAt.nice {w : World} {base bk mm : Nat} {v : Value} {L : List Ent} (h : BookAt w base bk mm v L) : Nice L := ⟨h.uni, h.few, h.ok⟩
theorem DBookAt.below {w w' : World} {base db : Nat} {v : Value} {L : List Ent} (h : DBookAt w base db v L) (hb : Below w.heap.size w w') : DBookAt w' base db v L :=
  ⟨(hb.block db (lt_of_heap h.dbk)).trans h.dbk, own_below h.own hb, h.h1⟩
theorem DBookAt.cell {w : World} {base db : Nat} {v : Value} {L : List Ent} (h : DBookAt w base db v L) : w.cell? ⟨db, 0, none⟩ = some v := by rw [cell_of_row _ _ _ _ _ _ h.dbk]; rfl
theorem bill_at : ∀ {L : List Ent} {k : Nat} {e : Ent}, L[k]? = some e → ∀ j, j < 8 → (billCells L)[k * 8 + j]? = e.2.cells[j]?
  | [], k, e, h, _, _ => by simp at h
  | c :: L, 0, e, h, j, hj => by
    simp at h; subst h
    rw [show billCells (c :: L) = c.2.cells ++ billCells L from rfl, Nat.zero_mul, Nat.zero_add, List.getElem?_append_left (show j < 8 from hj)]
  | c :: L, k + 1, e, h, j, hj => by
    have h' : L[k]? = some e := by simpa using h
    rw [show billCells (c :: L) = c.2.cells ++ billCells L from rfl, List.getElem?_append_right (show 8 ≤ (k + 1) * 8 + j by omega), show (k + 1) * 8 + j - c.2.cells.length = k * 8 + j by show (k + 1) * 8 + j - 8 = _; omega]
    exact bill_at h' j hj
/-- a bill of the document's row -/
theorem DBookAt.bill {w : World} {base db : Nat} {v : Value} {L : List Ent} (h : DBookAt w base db v L) {k : Nat} {e : Ent} (he : L[k]? = some e) : ∃ g cap, v = .slice (some ⟨g, 0, none⟩) L.length cap ∧ w.rangeAt g (k * 8) [.string e.2.hash, .string e.2.pre, .int .i64 e.2.amt, .int .i64 e.2.stamp, .int .i64 e.2.exp, .int .i64 e.2.delta, .string e.2.memo, .bool e.2.paid] ∧ w.cell? ⟨g, k * 8, none⟩ = some (.string e.2.hash) ∧ w.cell? ⟨g, k * 8 + 7, none⟩ = some (.bool e.2.paid) ∧ w.frozen? ⟨g, k * 8 + 7, none⟩ = false := by
  have hk := (List.getElem?_eq_some_iff.1 he).1
  obtain ⟨g, cap, cur, hv, _, hh, _, _, _, ht⟩ := row_cellsG h.own (by omega)
  have hat : ∀ j, j < 8 → w.cell? ⟨g, k * 8 + j, none⟩ = e.2.cells[j]? := fun j hj => by
    rw [cell_of_row _ _ _ _ _ _ hh, ht _ (by omega), bill_at he j hj]
  refine ⟨g, cap, hv, fun j v hv => ?_, hat 0 (by omega), hat 7 (by omega), frozen_of_row _ _ _ _ _ hh⟩
  have hj : j < 8 := (List.getElem?_eq_some_iff.1 hv).1
  exact (hat j hj).trans hv
def idxI (o : Option (Nat × Ent)) : Int := match o with
  | none => -1
  | some (j, _) => j
set_option maxRecDepth 100000 in
set_option maxHeartbeats 4000000 in
theorem dfind_any (base db : Nat) (v : Value) (L : List Ent) (w : World) (h : DBookAt w base db v L) (hn : Nice L) (x : ByteArray) : Calls Tryd.prog 73 #[.pointer (some ⟨db, 0, none⟩), .string x] w fun e w' => e = .returned (.int .i64 (idxI (findB x L 0))) ∧ Below w.heap.size w w' := by
  obtain ⟨va, vc, rfl⟩ := own_slice h.own
  have c0 := h.cell
  have HH := Lib.hid h
  have HN := Lib.hid hn
  have hfew := hn.few
  clear h hn
  go_enter Tryd.func73, Tryd.ntmps73
  go_wp2
  go_loopw [5] (fun iv wr => ∃ k : Nat, k ≤ L.length ∧ iv = .int .i64 k ∧ wr = w ∧ Hid (∀ e ∈ L.take k, e.2.hash ≠ x)) (fun iv _ => L.length - (intOf iv).toNat)
  case atStart => exact ⟨0, Nat.zero_le _, rfl, rfl, by intro p hp; simp at hp⟩
  case round =>
    obtain ⟨k, hk, rfl, rfl, hA⟩ := hrel
    by_cases hlt : k < L.length
    · obtain ⟨e, he⟩ : ∃ e, L[k]? = some e := ⟨_, List.getElem?_eq_getElem hlt⟩
      obtain ⟨g, cap, hvv, _, d0, _, _⟩ := HH.out.bill he
      cases hvv
      have hkl : (k : Int) < (L.length : Int) := by omega
      have HE := Lib.hid he
      have HLT := Lib.hid hlt
      clear he
      by_cases hb : e.2.hash = x
      · have hbb : (e.2.hash.toList == x.toList) = true := by rw [hb]; simp
        have HX : Hid (idxI (findB x L 0) = (k : Int)) := by
          show _ = _
          rw [← hb, findB_at HN.out.uni 0 HE.out, Nat.zero_add]; rfl
        clear hb
        go_wp2_with fail
        go_ret
        exact ⟨by rw [HX.out]; rfl, Below.refl _ _⟩
      · have hbb := toList_ne hb
        have HX := Lib.hid hb
        clear hb
        go_wp2_with fail
        go_roundw
        case rel =>
          refine ⟨k + 1, by omega, by go_num, trivial, ?_⟩
          intro q hq
          rw [List.take_succ_eq_append_getElem HLT.out] at hq
          rcases List.mem_append.1 hq with hq | hq
          · exact hA.out q hq
          · rw [List.mem_singleton] at hq
            have : L[k] = e := by have := HE.out; rw [List.getElem?_eq_getElem HLT.out] at this; exact Option.some.inj this
            rw [hq.trans this]; exact HX.out
        case measure => simp [intOf]; omega
    · obtain rfl : k = L.length := by omega
      have HX : Hid (idxI (findB x L 0) = -1) := by
        show _ = _
        have := hA.out
        rw [List.take_length] at this
        rw [findB_none.2 this]; rfl
      go_wp2_with fail
      go_ret
      exact ⟨by rw [HX.out]; rfl, Below.refl _ _⟩
set_option maxRecDepth 100000 in
set_option maxHeartbeats 4000000 in
theorem dlate_any (b : Bil) (hok : BilOk b) (now : Int) (w : World) : Calls Tryd.prog 74 #[.agg #[.string b.hash, .string b.pre, .int .i64 b.amt, .int .i64 b.stamp, .int .i64 b.exp, .int .i64 b.delta, .string b.memo, .bool b.paid], .int .i64 now] w fun e w' => e = .returned (.bool (lateB b now)) ∧ Below w.heap.size w w' := by
  have h0 := hok.s0
  have h1 := hok.s1
  have h2 := hok.e0
  have h3 := hok.e1
  clear hok
  unfold lateB
  go_enter Tryd.func74, Tryd.ntmps74
  go_wp2_with fail
  go_ret
  exact ⟨rfl, by have := below_new' w (.cells #[.string b.hash, .string b.pre, .int .i64 b.amt, .int .i64 b.stamp, .int .i64 b.exp, .int .i64 b.delta, .string b.memo, .bool b.paid] 101); exact this⟩
end Go.Proofs.YtnaodgljdbkmnaaDoor
