/- book: late, Settled. -/
import Derived.Test.YtnaodgljdbkmnaaDoorBookA
namespace Go.Proofs.YtnaodgljdbkmnaaDoor
set_option linter.unusedVariables false
open Go.RowKit
theorem eight {w : World} {b : Nat} {a0 a1 a2 a3 a4 a5 a6 a7 : Value} {t : TypeId} {f : Nat × Nat} (h : w.heap[b]? = some (.cells #[a0, a1, a2, a3, a4, a5, a6, a7] t f)) :
    w.cell? ⟨b, 0, none⟩ = some a0 ∧ w.cell? ⟨b, 1, none⟩ = some a1 ∧ w.cell? ⟨b, 2, none⟩ = some a2 ∧ w.cell? ⟨b, 3, none⟩ = some a3 ∧ w.cell? ⟨b, 4, none⟩ = some a4 ∧ w.cell? ⟨b, 5, none⟩ = some a5 ∧ w.cell? ⟨b, 6, none⟩ = some a6 ∧ w.cell? ⟨b, 7, none⟩ = some a7 := by
  simp [World.cell?, h]
def lateB (b : Bil) (now : Int) : Bool := decide (b.stamp + b.exp < now)
set_option maxRecDepth 100000 in
set_option maxHeartbeats 4000000 in
theorem late_any (bb : Nat) (b : Bil) (w : World) (h : w.heap[bb]? = some (.cells b.cells.toArray 58 (0, 0))) (hok : BilOk b) (now : Int) : Calls Tryd.prog 50 #[.pointer (some ⟨bb, 0, none⟩), .int .i64 now] w fun e w' => e = .returned (.bool (lateB b now)) ∧ Below w.heap.size w w' := by
  obtain ⟨g0, g1, g2, g3, g4, g5, g6, g7⟩ := eight h
  have h0 := hok.s0
  have h1 := hok.s1
  have h2 := hok.e0
  have h3 := hok.e1
  have hsum : IntKind.i64.wrap (b.stamp + b.exp) = b.stamp + b.exp := by rw [IntKind.wrap_i64]; omega
  clear g0 g1 g2 g5 g6 g7 h
  replace g3 := Later.cell g3; replace g4 := Later.cell g4
  unfold lateB
  go_enter Tryd.func50, Tryd.ntmps50
  go_wp2_with fail
  refine wp_region_later (by kernel_rfl) (by kernel_rfl) ?_
  repeat (go_big_quiet_step (fail))
  refine wpQuiet_nil ?_
  intro _ hw'
  obtain ⟨nq, rfl⟩ := hw'
  go_wp2_with fail
  go_ret
  exact ⟨rfl, nq.below⟩
/-- the blocks of a book -/
def BkS (bk mm : Nat) (v : Value) (L : List Ent) : Nat → Prop := fun x => x = bk ∨ x = mm ∨ v.ownBlock = some x ∨ x ∈ L.map (·.1)
/-- a book turned by a call -/
def BTurn (base bk mm : Nat) (v : Value) (L L' : List Ent) (x : Value) (w : World) (e : Ending) (w' : World) : Prop :=
  e = .returned x ∧ ∃ v', BookAt w' base bk mm v' L' ∧ (∀ k, BkS bk mm v' L' k → BkS bk mm v L k ∨ w.heap.size ≤ k) ∧ Fr (BkS bk mm v L) w w'
theorem bturn_same {base bk mm : Nat} {v : Value} {L : List Ent} {x : Value} {w : World} {e : Ending} {w' : World} (h : BookAt w base bk mm v L) (he : e = .returned x) (hb : Below w.heap.size w w') : BTurn base bk mm v L L x w e w' :=
  ⟨he, v, h.below hb, fun k hk => .inl hk, Fr.below hb⟩
theorem BkS.ge {w : World} {base bk mm : Nat} {v : Value} {L : List Ent} (h : BookAt w base bk mm v L) : ∀ k, BkS bk mm v L k → base ≤ k := by
  rintro k (rfl | rfl | hk | hk)
  · exact h.h1
  · exact h.h2
  · exact (h.own.lt k hk).1
  · obtain ⟨e, he, rfl⟩ := List.mem_map.1 hk
    exact (h.bills e he).2
theorem BTurn.below {base bk mm : Nat} {v : Value} {L L' : List Ent} {x : Value} {w : World} {e : Ending} {w' : World} (h : BookAt w base bk mm v L) (ht : BTurn base bk mm v L L' x w e w') : Below base w w' := by
  obtain ⟨_, v', _, _, f⟩ := ht
  have hb : base ≤ w.heap.size := by have := h.h1; have := lt_of_heap h.bkk; omega
  exact ⟨f.os, f.tape, f.output, f.size, fun k hk => f.block k (by omega) (fun hs => by have := BkS.ge h k hs; omega)⟩
theorem findB_mem {x : ByteArray} : ∀ {L : List Ent} {j i : Nat} {e : Ent}, findB x L j = some (i, e) → e ∈ L ∧ e.2.hash = x
  | [], _, _, _, h => by cases h
  | c :: L, j, i, e, h => by
    unfold findB at h
    by_cases hb : (x == c.2.hash) = true
    · rw [if_pos hb] at h
      cases h
      exact ⟨List.mem_cons_self, ((ba_beq _ _).1 hb).symm⟩
    · rw [if_neg hb] at h
      obtain ⟨h1, h2⟩ := findB_mem h
      exact ⟨List.mem_cons_of_mem _ h1, h2⟩
theorem findB_none {x : ByteArray} : ∀ {L : List Ent} {j : Nat}, findB x L j = none ↔ ∀ e ∈ L, e.2.hash ≠ x
  | [], _ => by simp [findB]
  | c :: L, j => by
    unfold findB
    by_cases hb : (x == c.2.hash) = true
    · rw [if_pos hb]
      have := (ba_beq _ _).1 hb
      simp [this]
    · rw [if_neg hb, findB_none]
      have : c.2.hash ≠ x := fun e => hb ((ba_beq _ _).2 e.symm)
      simp [this]
theorem uni_ent {L : List Ent} (h : (L.map (·.2.hash)).Nodup) {e e' : Ent} (he : e ∈ L) (he' : e' ∈ L) (heq : e.2.hash = e'.2.hash) : e = e' := by
  induction L with
  | nil => cases he
  | cons c L ih =>
    simp only [List.map_cons, List.nodup_cons] at h
    rcases List.mem_cons.1 he with h1 | h1
    · rcases List.mem_cons.1 he' with h2 | h2
      · rw [h1, h2]
      · exact absurd (List.mem_map.2 ⟨e', h2, by rw [← heq, h1]⟩) h.1
    · rcases List.mem_cons.1 he' with h2 | h2
      · exact absurd (List.mem_map.2 ⟨e, h1, by rw [heq, h2]⟩) h.1
      · exact ih h.2 h1 h2
theorem far_ent {L : List Ent} (h : (L.map (·.1)).Nodup) {e e' : Ent} (he : e ∈ L) (he' : e' ∈ L) (heq : e.1 = e'.1) : e = e' := by
  induction L with
  | nil => cases he
  | cons c L ih =>
    simp only [List.map_cons, List.nodup_cons] at h
    rcases List.mem_cons.1 he with h1 | h1
    · rcases List.mem_cons.1 he' with h2 | h2
      · rw [h1, h2]
      · exact absurd (List.mem_map.2 ⟨e', h2, by rw [← heq, h1]⟩) h.1
    · rcases List.mem_cons.1 he' with h2 | h2
      · exact absurd (List.mem_map.2 ⟨e, h1, by rw [heq, h2]⟩) h.1
      · exact ih h.2 h1 h2
theorem map_not_cells {w : World} {a b : Nat} {es : Array MapEntry} {c : Nat} {cs : Array Value} {t : TypeId} {f : Nat × Nat} (h : w.heap[a]? = some (.map es c)) (h' : w.heap[b]? = some (.cells cs t f)) : a ≠ b := by
  rintro rfl
  rw [h] at h'; injection h' with h'; cases h'
/-- a bill is paid -/
def payB (x : ByteArray) (L : List Ent) : List Ent := L.map fun e => if (x == e.2.hash) = true then (e.1, { e.2 with paid := true }) else e
theorem payB_fst (x : ByteArray) (L : List Ent) : (payB x L).map (·.1) = L.map (·.1) := by
  unfold payB; rw [List.map_map]; apply List.map_congr_left; intro e _; simp only [Function.comp]; split <;> rfl
theorem payB_hash (x : ByteArray) (L : List Ent) : (payB x L).map (·.2.hash) = L.map (·.2.hash) := by
  unfold payB; rw [List.map_map]; apply List.map_congr_left; intro e _; simp only [Function.comp]; split <;> rfl
theorem payB_lies {es : List MapEntry} {x : ByteArray} {L : List Ent} (h : LiesB es L) : LiesB es (payB x L) := by
  unfold LiesB at *
  rw [h]
  unfold payB
  rw [List.map_map]
  apply List.map_congr_left
  intro e _
  simp only [Function.comp]
  split <;> rfl
theorem book_pay {base bk mm : Nat} {v : Value} {L : List Ent} {w : World} (h : BookAt w base bk mm v L) {x : ByteArray} {j : Nat} {e : Ent} (hf : findB x L 0 = some (j, e)) :
    BookAt (w.setCell ⟨e.1, 7, none⟩ (.bool true)) base bk mm v (payB x L) ∧ Fr (BkS bk mm v L) w (w.setCell ⟨e.1, 7, none⟩ (.bool true)) := by
  obtain ⟨hm, hx⟩ := findB_mem hf
  have hbe := (h.bills e hm).1
  obtain ⟨es, c, hmm, hl⟩ := h.map
  have hset := heap_setCell_same _ e.1 7 _ 58 (.bool true) hbe
  have oth : ∀ k, k ≠ e.1 → (w.setCell ⟨e.1, 7, none⟩ (.bool true)).heap[k]? = w.heap[k]? := fun k hk => heap_setCell_other _ _ _ _ hk
  refine ⟨{ bkk := ?_, map := ⟨es, c, ?_, payB_lies hl⟩, own := ?_, bills := ?_, far := ?_, uni := ?_, few := ?_, ok := ?_, h1 := h.h1, h2 := h.h2 }, (Fr.refl _ w).set e.1 7 _ (.inr (.inr (.inr (List.mem_map.2 ⟨e, hm, rfl⟩))))⟩
  · rw [oth bk (type_ne h.bkk hbe (by decide))]; exact h.bkk
  · rw [oth mm (map_not_cells hmm hbe)]; exact hmm
  · have e1 : (payB x L).length = L.length := by unfold payB; rw [List.length_map]
    have e2 : (payB x L).map (fun e => Value.string e.2.hash) = L.map fun e => Value.string e.2.hash := by
      have := congrArg (List.map Value.string) (payB_hash x L)
      rw [List.map_map, List.map_map] at this
      exact this
    rw [e1, e2]
    exact own_blocks h.own fun g hg => oth g (own_ne h.own hbe (by decide) g hg)
  · intro e' he'
    unfold payB at he'
    obtain ⟨q, hq, rfl⟩ := List.mem_map.1 he'
    by_cases hb : (x == q.2.hash) = true
    · rw [if_pos hb]
      have hqe : q = e := uni_ent h.uni hq hm (by rw [hx]; exact ((ba_beq _ _).1 hb).symm)
      subst hqe
      refine ⟨?_, (h.bills q hq).2⟩
      show (w.setCell ⟨q.1, 7, none⟩ (.bool true)).heap[q.1]? = _
      rw [hset]; rfl
    · rw [if_neg hb]
      have hqn : q.1 ≠ e.1 := fun heq => hb ((ba_beq _ _).2 (by rw [far_ent h.far hq hm heq, hx]))
      exact ⟨by rw [oth q.1 hqn]; exact (h.bills q hq).1, (h.bills q hq).2⟩
  · rw [payB_fst]; exact h.far
  · rw [payB_hash]; exact h.uni
  · unfold payB; rw [List.length_map]; exact h.few
  · intro e' he'
    unfold payB at he'
    obtain ⟨q, hq, rfl⟩ := List.mem_map.1 he'
    have := h.ok q hq
    split
    · exact ⟨this.a0, this.a1, this.s0, this.s1, this.e0, this.e1, this.d0, this.d1, this.hs, this.ps, this.ms⟩
    · exact this
/-- what Settled tells -/
def setE (x : ByteArray) (L : List Ent) : Int := match findB x L 0 with
  | none => 230
  | some (_, e) => if e.2.paid = true then 232 else 0
def setL (x : ByteArray) (L : List Ent) : List Ent := if setE x L = 0 then payB x L else L
set_option maxRecDepth 100000 in
set_option maxHeartbeats 4000000 in
theorem settled_any (base bk mm : Nat) (v : Value) (L : List Ent) (w : World) (h : BookAt w base bk mm v L) (x : ByteArray) : Calls Tryd.prog 31 #[.pointer (some ⟨bk, 0, none⟩), .string x] w (BTurn base bk mm v L (setL x L) (.int .i64 (setE x L)) w) := by
  have HF := Lib.hid (bfind_any base bk mm v L w h x)
  have HS := Lib.hid h
  unfold fndV at HF
  unfold setL setE
  cases hf : findB x L 0 with
  | none =>
    rw [hf] at HF
    simp only [Option.map_none, Option.getD_none, Option.isSome_none] at HF
    simp only
    rw [if_neg (by decide)]
    clear h hf
    go_enter Tryd.func31, Tryd.ntmps31
    go_wp2_with (go_at_call 49; (with_reducible refine Calls.mono HF.out ?_); rintro e w1 ⟨rfl, hb1⟩; have B1 := Lib.hid hb1; clear hb1)
    go_ret
    exact bturn_same HS.out rfl B1.out
  | some q =>
    obtain ⟨j, e⟩ := q
    rw [hf] at HF
    simp only [Option.map_some, Option.getD_some, Option.isSome_some, if_true] at HF
    unfold Ent.ptr at HF
    obtain ⟨hm, hx⟩ := findB_mem hf
    have hbe := (h.bills e hm).1
    have HBE := Lib.hid hbe
    have HFF := Lib.hid hf
    cases hp : e.2.paid with
    | true =>
      simp only [hp, if_true]
      rw [if_neg (by decide)]
      clear h hf hbe
      go_enter Tryd.func31, Tryd.ntmps31
      go_wp2_with (go_at_call 49; (with_reducible refine Calls.mono HF.out ?_); rintro e' w1 ⟨rfl, hb1⟩; have B1 := Lib.hid hb1; obtain ⟨a0, a1, a2, a3, a4, a5, a6, a7⟩ := eight ((hb1.block _ (lt_of_heap HBE.out)).trans HBE.out); rw [hp] at a7; clear hb1)
      go_ret
      exact bturn_same HS.out rfl B1.out
    | false =>
      simp only [hp, Bool.false_eq_true, if_false]
      rw [if_pos trivial]
      clear h hf hbe
      go_enter Tryd.func31, Tryd.ntmps31
      go_wp2_with (go_at_call 49; (with_reducible refine Calls.mono HF.out ?_); rintro e' w1 ⟨rfl, hb1⟩; have B1 := Lib.hid hb1; have hbe1 := (hb1.block _ (lt_of_heap HBE.out)).trans HBE.out; obtain ⟨a0, a1, a2, a3, a4, a5, a6, a7⟩ := eight hbe1; rw [hp] at a7; have f7 := frozen_of_row _ _ 7 _ _ hbe1; clear hb1 hbe1)
      go_ret
      obtain ⟨p1, p2⟩ := book_pay (HS.out.below B1.out) HFF.out
      refine ⟨rfl, v, p1, fun k hk => .inl ?_, (Fr.below B1.out).trans p2⟩
      rcases hk with hk | hk | hk | hk
      · exact .inl hk
      · exact .inr (.inl hk)
      · exact .inr (.inr (.inl hk))
      · rw [payB_fst] at hk; exact .inr (.inr (.inr hk))
end Go.Proofs.YtnaodgljdbkmnaaDoor
