/- Prune's closure, slices.IndexFunc -/
import Derived.Test.YtnaodgljdbkmnaaDoorBookF
namespace Go.Proofs.YtnaodgljdbkmnaaDoor
set_option linter.unusedVariables false
open Go.RowKit
/-- a bill that Prune keeps -/
def kp (now : Int) (e : Ent) : Bool := e.2.paid || !lateB e.2 now
def MapIs (w : World) (mm : Nat) (L : List Ent) : Prop := ∃ es c, w.heap[mm]? = some (.map es c) ∧ LiesB es.toList L
theorem MapIs.below {w w' : World} {mm : Nat} {L : List Ent} (h : MapIs w mm L) (hb : Below w.heap.size w w') : MapIs w' mm L := by
  obtain ⟨es, c, h1, h2⟩ := h
  exact ⟨es, c, (hb.block mm (lt_of_heap h1)).trans h1, h2⟩
theorem map_erase {α β : Type} (f : α → β) : ∀ (l : List α) (j : Nat), (l.eraseIdx j).map f = (l.map f).eraseIdx j
  | [], j => by simp
  | a :: l, 0 => by simp
  | a :: l, j + 1 => by simp [map_erase f l j]
theorem MapIs.del {w : World} {mm : Nat} {L : List Ent} {es : Array MapEntry} {c j : Nat} (h1 : w.heap[mm]? = some (.map es c)) (h2 : LiesB es.toList L) : MapIs (putO w mm (.map (es.eraseIdxIfInBounds j) c)) mm (L.eraseIdx j) := by
  refine ⟨_, _, putO_same h1, ?_⟩
  unfold LiesB at *
  rw [Array.toList_eraseIdxIfInBounds]
  rw [map_erase, map_erase, h2]
theorem run_delB' (x : ByteArray) (mm : Nat) (L : List Ent) (w : World) (h : MapIs w mm L) (j : Nat) (e : Ent) (hf : findB x L 0 = some (j, e)) : ∃ w', (∀ ty, (Builtin.delete_ #[88, 22] ty #[.map (some mm), .string x]).run Tryd.prog w = .ok (.tuple #[]) w') ∧ MapIs w' mm (L.eraseIdx j) ∧ Fr (Only mm) w w' := by
  obtain ⟨es, c, h1, h2⟩ := h
  exact ⟨_, fun ty => run_delB x es c mm L w h2 h1 ty j e hf, MapIs.del h1 h2, (Fr.below (Below.refl _ _)).putO mm _ rfl⟩
set_option maxRecDepth 100000 in
set_option maxHeartbeats 4000000 in
theorem pr_any (bk mm r2 r3 : Nat) (v : Value) (L : List Ent) (x : ByteArray) (j : Nat) (e : Ent) (now : Int) (W : World)
    (hbk : W.heap[bk]? = some (.cells #[.map (some mm), v] 90 (0, 0))) (hm : MapIs W mm L) (hf : findB x L 0 = some (j, e)) (hb : W.heap[e.1]? = some (.cells e.2.cells.toArray 58 (0, 0))) (hok : BilOk e.2)
    (h2 : W.cell? ⟨r2, 0, none⟩ = some (.pointer (some ⟨bk, 0, none⟩))) (h3 : W.cell? ⟨r3, 0, none⟩ = some (.int .i64 now)) :
    Calls Tryd.prog 53 #[.string x, .pointer (some ⟨r2, 0, none⟩), .pointer (some ⟨r3, 0, none⟩)] W fun y w' => y = .returned (.bool (!kp now e)) ∧ ((kp now e = true ∧ Below W.heap.size W w') ∨ (kp now e = false ∧ MapIs w' mm (L.eraseIdx j) ∧ Fr (Only mm) W w')) := by
  have HL := late_any e.1 e.2 W hb hok now
  have c0 : W.cell? ⟨bk, 0, none⟩ = some (.map (some mm)) := by rw [cell_of_row _ _ _ _ _ _ hbk]; rfl
  obtain ⟨es, c, hm1, hl⟩ := hm
  have hlk := run_lookB1 x es c mm L W hl hm1
  rw [hf] at hlk
  simp only [Option.map_some, Option.getD_some] at hlk
  unfold Ent.ptr at hlk
  obtain ⟨g0, g1, g2, g3, g4, g5, g6, g7⟩ := eight hb
  have HM : Hid (MapIs W mm L) := ⟨es, c, hm1, hl⟩
  have HF := Lib.hid hf
  have HLL := Lib.hid HL
  have H2 := Lib.hid h2
  have C0 := Lib.hid c0
  clear HL hm1 hl hf hb hok hbk g0 g1 g2 g3 g4 g5 g6
  cases hp : e.2.paid with
  | true =>
    have hkp : kp now e = true := by unfold kp; rw [hp]; rfl
    rw [hkp]
    rw [hp] at g7
    clear hp hkp
    go_enter Tryd.func53, Tryd.ntmps53
    go_wp2_with fail
    go_ret
    exact ⟨rfl, .inl ⟨trivial, Below.refl _ _⟩⟩
  | false =>
    rw [hp] at g7
    cases hla : lateB e.2 now with
    | false =>
      rw [hla] at HLL
      have hkp : kp now e = true := by unfold kp; rw [hp, hla]; rfl
      rw [hkp]
      clear hp hkp hla
      go_enter Tryd.func53, Tryd.ntmps53
      go_wp2_with (go_at_call 50; (with_reducible refine Calls.mono HLL.out ?_); rintro y w1 ⟨rfl, hb1⟩; have B1 := Lib.hid hb1; clear hb1)
      go_ret
      exact ⟨rfl, .inl ⟨trivial, B1.out⟩⟩
    | true =>
      rw [hla] at HLL
      have hkp : kp now e = false := by unfold kp; rw [hp, hla]; rfl
      rw [hkp]
      clear hp hkp hla
      go_enter Tryd.func53, Tryd.ntmps53
      go_wp2_with (go_at_call 50; (with_reducible refine Calls.mono HLL.out ?_); rintro y w1 ⟨rfl, hb1⟩; have B1 := Lib.hid hb1; have d2 := cell_later hb1 H2.out; have d0 := cell_later hb1 C0.out; obtain ⟨w9, hdel, hm9, hf9⟩ := run_delB' x mm L w1 (HM.out.below hb1) j e HF.out; have M9 := Lib.hid hm9; have F9 := Lib.hid hf9; clear hb1 hm9 hf9)
      go_ret
      exact ⟨rfl, .inr ⟨trivial, M9.out, (Fr.below B1.out).trans F9.out⟩⟩
/-- where the first stands that Prune lets go -/
def IdxPost (now : Int) (mm : Nat) (L : List Ent) (w : World) (y : Ending) (w' : World) : Prop :=
  (∃ (i : Nat) (e : Ent), y = .returned (.int .i64 i) ∧ L[i]? = some e ∧ (∀ a ∈ L.take i, kp now a = true) ∧ kp now e = false ∧ MapIs w' mm (L.eraseIdx i) ∧ Fr (Only mm) w w') ∨
  (y = .returned (.int .i64 (-1)) ∧ (∀ a ∈ L, kp now a = true) ∧ Below w.heap.size w w')
set_option maxRecDepth 100000 in
set_option maxHeartbeats 4000000 in
theorem idx_any (base bk mm r2 r3 : Nat) (va : Option Addr) (vc : Nat) (L : List Ent) (now : Int) (w : World) (h : BookAt w base bk mm (.slice va L.length vc) L)
    (h2 : w.cell? ⟨r2, 0, none⟩ = some (.pointer (some ⟨bk, 0, none⟩))) (h3 : w.cell? ⟨r3, 0, none⟩ = some (.int .i64 now)) :
    Calls Tryd.prog 72 #[.slice va L.length vc, .func (.func 53) #[] #[.pointer (some ⟨r2, 0, none⟩), .pointer (some ⟨r3, 0, none⟩)]] w (IdxPost now mm L w) := by
  have HH := Lib.hid h
  have H2 := Lib.hid h2
  have H3 := Lib.hid h3
  have hfew := h.few
  clear h h2 h3
  go_enter Tryd.func72, Tryd.ntmps72
  go_wp2
  go_loopw [8] (fun iv wr => ∃ i : Nat, i ≤ L.length ∧ iv = .int .i64 i ∧ Hid (∀ a ∈ L.take i, kp now a = true) ∧ Hid (Below w.heap.size w wr)) (fun iv _ => L.length - (intOf iv).toNat)
  case atStart => exact ⟨0, Nat.zero_le _, rfl, (by intro a ha; simp at ha), Below.refl _ _⟩
  case round =>
    obtain ⟨i, hi, rfl, hA, hB⟩ := hrel
    have hBs := hB.out.size
    by_cases hlt : i < L.length
    · obtain ⟨e, he⟩ : ∃ e, L[i]? = some e := ⟨_, List.getElem?_eq_getElem hlt⟩
      obtain ⟨g, cap, cur, hvv, hg, hh, _, _, _, ht⟩ := row_cellsG HH.out.own (by omega)
      cases hvv
      have hp : (L.map fun e => Value.string e.2.hash)[i]? = some (.string e.2.hash) := by rw [List.getElem?_map, he]; rfl
      have d0 : wr.cell? ⟨g, i, none⟩ = some (.string e.2.hash) := cell_later hB.out (by rw [cell_of_row _ _ _ _ _ _ hh]; exact (ht _ (by omega)).trans hp)
      have hW := HH.out.below hB.out
      have HC : Hid (Calls Tryd.prog 53 #[.string e.2.hash, .pointer (some ⟨r2, 0, none⟩), .pointer (some ⟨r3, 0, none⟩)] wr fun y w' => y = .returned (.bool (!kp now e)) ∧ ((kp now e = true ∧ Below wr.heap.size wr w') ∨ (kp now e = false ∧ MapIs w' mm (L.eraseIdx i) ∧ Fr (Only mm) wr w'))) := by
        have := pr_any bk mm r2 r3 _ L e.2.hash _ e now wr hW.bkk hW.map (findB_at HH.out.uni 0 he) (hW.bills e (List.mem_of_getElem? he)).1 (hW.ok e (List.mem_of_getElem? he)) (cell_later hB.out H2.out) (cell_later hB.out H3.out)
        rw [Nat.zero_add] at this
        exact this
      have HE := Lib.hid he
      have hkl : (i : Int) < (L.length : Int) := by omega
      have HHLT := Lib.hid hlt
      clear hh ht hp hW he
      cases hk : kp now e with
      | true =>
        rw [hk] at HC
        have HK := Lib.hid hk
        clear hk
        go_wp2_with (go_at_call 53; (with_reducible refine Calls.mono HC.out ?_); rintro y w1 ⟨rfl, hb1⟩; have B1 := Lib.hid (hb1.resolve_right (fun h => by cases h.1)).2; clear hb1)
        go_roundw
        case rel =>
          refine ⟨i + 1, by omega, by go_num, ?_, hB.out.trans (B1.out.mono hBs)⟩
          intro a ha
          rw [List.take_succ_eq_append_getElem HHLT.out] at ha
          rcases List.mem_append.1 ha with ha | ha
          · exact hA.out a ha
          · rw [List.mem_singleton] at ha
            have : L[i] = e := by have := HE.out; rw [List.getElem?_eq_getElem HHLT.out] at this; exact Option.some.inj this
            rw [ha.trans this]; exact HK.out
        case measure => simp [intOf]; omega
      | false =>
        rw [hk] at HC
        have HK := Lib.hid hk
        clear hk
        go_wp2_with (go_at_call 53; (with_reducible refine Calls.mono HC.out ?_); rintro y w1 ⟨rfl, hb1⟩; have B1 := Lib.hid (hb1.resolve_left (fun h => by cases h.1)).2; clear hb1)
        go_ret
        exact .inl ⟨i, e, rfl, HE.out, hA.out, HK.out, B1.out.1, (Fr.below hB.out).trans' B1.out.2 (fun _ _ h => h)⟩
    · obtain rfl : i = L.length := by omega
      go_wp2_with fail
      go_ret
      refine .inr ⟨rfl, ?_, hB.out⟩
      have := hA.out
      rw [List.take_length] at this
      exact this
end Go.Proofs.YtnaodgljdbkmnaaDoor
