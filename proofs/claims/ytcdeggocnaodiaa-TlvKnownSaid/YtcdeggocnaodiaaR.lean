/- tlv: Find, the document's Find. -/
import Derived.Test.YtcdeggocnaodiaaQ
namespace Go.Proofs.Ytcdeggocnaodiaa
open Go.RowKit Tlv

/-- the first record of which p is true -/
def IsFirst (p : Rec → Bool) (L : List Rec) (k : Nat) (r : Rec) : Prop := L[k]? = some r ∧ p r = true ∧ ∀ i, i < k → ∀ r', L[i]? = some r' → p r' = false
theorem first_or_none (p : Rec → Bool) : ∀ L : List Rec, (∃ k r, IsFirst p L k r) ∨ ∀ r ∈ L, p r = false
  | [] => .inr fun r h => by cases h
  | a :: L => by
    cases ha : p a with
    | true => exact .inl ⟨0, a, rfl, ha, fun i hi => by omega⟩
    | false =>
      rcases first_or_none p L with ⟨k, r, h1, h2, h3⟩ | h
      · refine .inl ⟨k + 1, r, by simpa using h1, h2, fun i hi r' hr => ?_⟩
        cases i with
        | zero => simp at hr; subst hr; exact ha
        | succ i => exact h3 i (by omega) r' (by simpa using hr)
      · refine .inr fun r hr => ?_
        rcases List.mem_cons.1 hr with rfl | hr
        · exact ha
        · exact h r hr
theorem cell1 (w : World) (v : Value) (t : TypeId) : (w.alloc (.cells #[v] t)).cell? ⟨w.heap.size, 0, none⟩ = some v := by
  rw [cell_of_row _ _ _ _ _ _ (heap_alloc_at w (.cells #[v] t))]; rfl
theorem cell2 (w : World) (a b : Value) (t : TypeId) : (w.alloc (.cells #[a, b] t)).cell? ⟨w.heap.size, 0, none⟩ = some a ∧ (w.alloc (.cells #[a, b] t)).cell? ⟨w.heap.size, 1, none⟩ = some b := by
  have h := heap_alloc_at w (.cells #[a, b] t)
  refine ⟨?_, ?_⟩ <;> (rw [cell_of_row _ _ _ _ _ _ h]; rfl)
def BoolPost (b : Bool) (w : World) (e : Ending) (w' : World) : Prop := e = .returned (.bool b) ∧ Below w.heap.size w w'
set_option maxRecDepth 100000 in
set_option maxHeartbeats 2000000 in
theorem is_t (g : Nat) (t x : Int) (s : Value) (w : World) (hg : w.cell? ⟨g, 0, none⟩ = some (.int .u64 t)) : Calls Try.prog 32 #[.agg #[.int .u64 x, s], .pointer (some ⟨g, 0, none⟩)] w (BoolPost (x == t) w) := by
  have c0 := (cell2 w (.int .u64 x) s 39).1
  have cg := cell_later (below_new w (.cells #[.int .u64 x, s] 39)) hg
  go_enter Try.func32, Try.ntmps32
  go_wp2
  go_ret
  exact ⟨rfl, below_new _ _⟩
def pF (t : Int) (r : Rec) : Bool := (r.t : Int) == t
set_option maxRecDepth 100000 in
set_option maxHeartbeats 2000000 in
theorem idxF_some (g : Nat) (t : Int) (a : Option Addr) (c : Nat) (L : List Rec) (k : Nat) (r : Rec) (w : World) (hm : L.length ≤ 3000) (hf : IsFirst (pF t) L k r) (hr : Recs w a L) (hg : w.cell? ⟨g, 0, none⟩ = some (.int .u64 t)) :
    Calls Try.prog 31 #[.slice a L.length c, .func (.func 32) #[] #[.pointer (some ⟨g, 0, none⟩)]] w fun e w' => e = .returned (.int .i64 (k : Int)) ∧ Below w.heap.size w w' := by
  have HR := Lib.hid hr; have HF := Lib.hid hf; have HG := Lib.hid hg
  have hkl : k < L.length := (List.getElem?_eq_some_iff.1 hf.1).1
  clear hr hf hg
  go_enter Try.func31, Try.ntmps31
  go_wp2
  go_loopw [8] (fun iv wr => ∃ j : Nat, j ≤ k ∧ iv = .int .i64 j ∧ Hid (Below w.heap.size w wr)) (fun iv _ => L.length - (intOf iv).toNat)
  case atStart => exact ⟨0, Nat.zero_le _, rfl, Below.refl _ _⟩
  case round =>
    obtain ⟨j, hj, rfl, hB⟩ := hrel
    obtain ⟨s, hs⟩ : ∃ s, L[j]? = some s := ⟨_, List.getElem?_eq_getElem (by omega)⟩
    have hne : L ≠ [] := by intro h; rw [h] at hkl; simp at hkl
    obtain ⟨b, off, rfl, hrec⟩ := (HR.out.below hB.out).resolve_left hne
    obtain ⟨ai, ci, c0, c1, _, _, _⟩ := hrec j s hs
    have hgw := Lib.hid (cell_later hB.out HG.out)
    have hjl : (j : Int) < (L.length : Int) := by omega
    have hst := HF.out
    obtain ⟨x, hx⟩ : ∃ x : Int, (s.t : Int) = x := ⟨_, rfl⟩
    rw [hx] at c0
    by_cases hjk : j = k
    · subst hjk
      have hq : (x == t) = true := by
        have h1 := hst.1; rw [hs] at h1; cases h1
        have := hst.2.1; unfold pF at this; rw [hx] at this; exact this
      clear hst hs hrec
      go_wp2_with (go_at_call 32; (with_reducible refine Calls.mono (is_t g t x _ _ hgw.out) ?_); rintro e w1 ⟨rfl, hb1⟩; have HB1 := Lib.hid hb1; clear hb1)
      go_ret
      exact ⟨rfl, hB.out.trans (HB1.out.mono hB.out.size)⟩
    · have hq : (x == t) = false := by
        have := hst.2.2 j (by omega) s hs; unfold pF at this; rw [hx] at this; exact this
      clear hst hs hrec
      go_wp2_with (go_at_call 32; (with_reducible refine Calls.mono (is_t g t x _ _ hgw.out) ?_); rintro e w1 ⟨rfl, hb1⟩; have HB1 := Lib.hid hb1; clear hb1)
      go_roundw
      case rel => exact ⟨j + 1, by omega, by go_num, hB.out.trans (HB1.out.mono hB.out.size)⟩
      case measure => simp [intOf]; omega
set_option maxRecDepth 100000 in
set_option maxHeartbeats 2000000 in
theorem idxF_none (g : Nat) (t : Int) (a : Option Addr) (c : Nat) (L : List Rec) (w : World) (hm : L.length ≤ 3000) (hf : ∀ r ∈ L, pF t r = false) (hr : Recs w a L) (hg : w.cell? ⟨g, 0, none⟩ = some (.int .u64 t)) :
    Calls Try.prog 31 #[.slice a L.length c, .func (.func 32) #[] #[.pointer (some ⟨g, 0, none⟩)]] w fun e w' => e = .returned (.int .i64 (-1)) ∧ Below w.heap.size w w' := by
  have HR := Lib.hid hr; have HF := Lib.hid hf; have HG := Lib.hid hg
  clear hr hf hg
  go_enter Try.func31, Try.ntmps31
  go_wp2
  go_loopw [8] (fun iv wr => ∃ j : Nat, j ≤ L.length ∧ iv = .int .i64 j ∧ Hid (Below w.heap.size w wr)) (fun iv _ => L.length - (intOf iv).toNat)
  case atStart => exact ⟨0, Nat.zero_le _, rfl, Below.refl _ _⟩
  case round =>
    obtain ⟨j, hj, rfl, hB⟩ := hrel
    by_cases hlt : j < L.length
    · obtain ⟨s, hs⟩ : ∃ s, L[j]? = some s := ⟨_, List.getElem?_eq_getElem hlt⟩
      have hne : L ≠ [] := by intro h; rw [h] at hlt; simp at hlt
      obtain ⟨b, off, rfl, hrec⟩ := (HR.out.below hB.out).resolve_left hne
      obtain ⟨ai, ci, c0, c1, _, _, _⟩ := hrec j s hs
      have hgw := Lib.hid (cell_later hB.out HG.out)
      have hjl : (j : Int) < (L.length : Int) := by omega
      have hst := HF.out s (List.mem_of_getElem? hs)
      obtain ⟨x, hx⟩ : ∃ x : Int, (s.t : Int) = x := ⟨_, rfl⟩
      rw [hx] at c0
      have hq : (x == t) = false := by unfold pF at hst; rw [hx] at hst; exact hst
      clear hst hs hrec
      go_wp2_with (go_at_call 32; (with_reducible refine Calls.mono (is_t g t x _ _ hgw.out) ?_); rintro e w1 ⟨rfl, hb1⟩; have HB1 := Lib.hid hb1; clear hb1)
      go_roundw
      case rel => exact ⟨j + 1, by omega, by go_num, hB.out.trans (HB1.out.mono hB.out.size)⟩
      case measure => simp [intOf]; omega
    · obtain rfl : j = L.length := by omega
      go_wp2_with fail
      go_ret
      exact ⟨rfl, hB.out⟩
/-- what Find tells: a clone of the first record's body -/
def FindPost (body : List UInt8) (b : Bool) (w : World) (e : Ending) (w' : World) : Prop := ∃ v, e = .returned (.tuple #[v, .bool b]) ∧ Byt w' w.heap.size v body ∧ Below w.heap.size w w'
set_option maxRecDepth 100000 in
set_option maxHeartbeats 2000000 in
theorem find_some (t : Int) (a : Option Addr) (c : Nat) (L : List Rec) (k : Nat) (r : Rec) (w : World) (hm : L.length ≤ 3000) (hbd : r.body.length ≤ 3000) (hf : IsFirst (pF t) L k r) (hr : Recs w a L) :
    Calls Try.prog 22 #[.slice a L.length c, .int .u64 t] w (FindPost r.body true w) := by
  have HR := Lib.hid hr; have HF := Lib.hid hf
  have hkl : k < L.length := (List.getElem?_eq_some_iff.1 hf.1).1
  have hne : L ≠ [] := by intro h; rw [h] at hkl; simp at hkl
  obtain ⟨b, off, rfl, hrec⟩ := hr.resolve_left hne
  obtain ⟨ai, ci, c0, c1, cs, cl, cm, cn⟩ := hrec k r hf.1
  have CS := Lib.hid cs; have CN := Lib.hid cn
  have hki : (k : Int) < (L.length : Int) := by omega
  clear hr hf hrec cs cm cn
  go_enter Try.func22, Try.ntmps22
  go_wp2_with (first
    | (go_at_call 31; (with_reducible refine Calls.mono (idxF_some w.heap.size t (some ⟨b, off, none⟩) c L k r _ hm HF.out (HR.out.below (below_new w _)) (cell1 w (.int .u64 t) 22)) ?_); rintro e w1 ⟨rfl, hb1⟩; have hb2 := (below_new w (.cells #[.int .u64 t] 22)).trans (hb1.mono (by simp)); have d0 := cell_later hb2 c0; have d1 := cell_later hb2 c1; have HB2 := Lib.hid hb2; clear hb1 hb2)
    | (go_at_call 27; (with_reducible refine Calls.mono (clone_any ai ci r.body _ (by omega) (CS.out.below HB2.out) CN.out) ?_); rintro e w2 ⟨v2, rfl, hp2, hb2⟩; have HP2 := Lib.hid hp2; have HB3 := Lib.hid hb2; clear hp2 hb2))
  go_ret2
  exact ⟨_, rfl, byt_base HP2.out HB2.out.size, HB2.out.trans (HB3.out.mono HB2.out.size)⟩
set_option maxRecDepth 100000 in
set_option maxHeartbeats 2000000 in
theorem find_none (t : Int) (a : Option Addr) (c : Nat) (L : List Rec) (w : World) (hm : L.length ≤ 3000) (hf : ∀ r ∈ L, pF t r = false) (hr : Recs w a L) :
    Calls Try.prog 22 #[.slice a L.length c, .int .u64 t] w (FindPost [] false w) := by
  have HR := Lib.hid hr; have HF := Lib.hid hf
  clear hr hf
  go_enter Try.func22, Try.ntmps22
  go_wp2_with (first
    | (go_at_call 31; (with_reducible refine Calls.mono (idxF_none w.heap.size t a c L _ hm HF.out (HR.out.below (below_new w _)) (cell1 w (.int .u64 t) 22)) ?_); rintro e w1 ⟨rfl, hb1⟩; have hb2 := (below_new w (.cells #[.int .u64 t] 22)).trans (hb1.mono (by simp)); have HB2 := Lib.hid hb2; clear hb1 hb2))
  go_ret2
  exact ⟨_, rfl, byt_nil _ _, HB2.out⟩
/-- what the document's Find tells: the first record's body itself -/
def FindrPost (body : List UInt8) (b : Bool) (w : World) (e : Ending) (w' : World) : Prop := ∃ a c, e = .returned (.tuple #[.slice a body.length c, .bool b]) ∧ Src w' a body ∧ w = w'
set_option maxRecDepth 100000 in
set_option maxHeartbeats 2000000 in
theorem findr_some (t : Int) (a : Option Addr) (c : Nat) (L : List Rec) (k : Nat) (r : Rec) (w : World) (hm : L.length ≤ 3000) (hf : IsFirst (pF t) L k r) (hr : Recs w a L) :
    Calls Try.prog 23 #[.slice a L.length c, .int .u64 t] w (FindrPost r.body true w) := by
  have HR := Lib.hid hr; have HF := Lib.hid hf
  have hkl : k < L.length := (List.getElem?_eq_some_iff.1 hf.1).1
  clear hr hf
  go_enter Try.func23, Try.ntmps23
  go_wp2
  go_loopw [6] (fun iv wr => ∃ j : Nat, j ≤ k ∧ iv = .int .i64 j ∧ wr = w) (fun iv _ => L.length - (intOf iv).toNat)
  case atStart => exact ⟨0, Nat.zero_le _, rfl, rfl⟩
  case round =>
    obtain ⟨j, hj, rfl, rfl⟩ := hrel
    obtain ⟨s, hs⟩ : ∃ s, L[j]? = some s := ⟨_, List.getElem?_eq_getElem (by omega)⟩
    have hne : L ≠ [] := by intro h; rw [h] at hkl; simp at hkl
    obtain ⟨b, off, rfl, hrec⟩ := HR.out.resolve_left hne
    obtain ⟨ai, ci, c0, c1, cs, _, _⟩ := hrec j s hs
    have hjl : (j : Int) < (L.length : Int) := by omega
    have hst := HF.out
    obtain ⟨x, hx⟩ : ∃ x : Int, (s.t : Int) = x := ⟨_, rfl⟩
    rw [hx] at c0
    by_cases hjk : j = k
    · subst hjk
      have hsr : s = r := by have h1 := hst.1; rw [hs] at h1; cases h1; rfl
      subst hsr
      have hq : (x == t) = true := by
        have := hst.2.1; unfold pF at this; rw [hx] at this; exact this
      have CS := Lib.hid cs
      clear hst hs hrec cs
      go_wp2
      go_ret2
      exact ⟨_, _, rfl, CS.out, rfl⟩
    · have hq : (x == t) = false := by
        have := hst.2.2 j (by omega) s hs; unfold pF at this; rw [hx] at this; exact this
      clear hst hs hrec cs
      go_wp2
      go_roundw
      case rel => exact ⟨j + 1, by omega, by go_num, trivial⟩
      case measure => simp [intOf]; omega
set_option maxRecDepth 100000 in
set_option maxHeartbeats 2000000 in
theorem findr_none (t : Int) (a : Option Addr) (c : Nat) (L : List Rec) (w : World) (hm : L.length ≤ 3000) (hf : ∀ r ∈ L, pF t r = false) (hr : Recs w a L) :
    Calls Try.prog 23 #[.slice a L.length c, .int .u64 t] w (FindrPost [] false w) := by
  have HR := Lib.hid hr; have HF := Lib.hid hf
  clear hr hf
  go_enter Try.func23, Try.ntmps23
  go_wp2
  go_loopw [6] (fun iv wr => ∃ j : Nat, j ≤ L.length ∧ iv = .int .i64 j ∧ wr = w) (fun iv _ => L.length - (intOf iv).toNat)
  case atStart => exact ⟨0, Nat.zero_le _, rfl, rfl⟩
  case round =>
    obtain ⟨j, hj, rfl, rfl⟩ := hrel
    by_cases hlt : j < L.length
    · obtain ⟨s, hs⟩ : ∃ s, L[j]? = some s := ⟨_, List.getElem?_eq_getElem hlt⟩
      have hne : L ≠ [] := by intro h; rw [h] at hlt; simp at hlt
      obtain ⟨b, off, rfl, hrec⟩ := HR.out.resolve_left hne
      obtain ⟨ai, ci, c0, c1, cs, _, _⟩ := hrec j s hs
      have hjl : (j : Int) < (L.length : Int) := by omega
      have hst := HF.out s (List.mem_of_getElem? hs)
      obtain ⟨x, hx⟩ : ∃ x : Int, (s.t : Int) = x := ⟨_, rfl⟩
      rw [hx] at c0
      have hq : (x == t) = false := by unfold pF at hst; rw [hx] at hst; exact hst
      clear hst hs hrec cs
      go_wp2
      go_roundw
      case rel => exact ⟨j + 1, by omega, by go_num, trivial⟩
      case measure => simp [intOf]; omega
    · obtain rfl : j = L.length := by omega
      go_wp2_with fail
      go_ret2
      exact ⟨none, 0, rfl, .inl rfl, rfl⟩
end Go.Proofs.Ytcdeggocnaodiaa
