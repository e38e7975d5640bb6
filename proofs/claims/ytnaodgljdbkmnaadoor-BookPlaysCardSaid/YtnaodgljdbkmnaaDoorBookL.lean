/- two books side by side -/
import Derived.Test.YtnaodgljdbkmnaaDoorBookK
namespace Go.Proofs.YtnaodgljdbkmnaaDoor
set_option linter.unusedVariables false
open Go.RowKit
theorem BookAt.lower {w : World} {b b' bk mm : Nat} (h : BookAt w b' bk mm (.slice none 0 0) []) (hb : b ≤ b') : BookAt w b bk mm (.slice none 0 0) [] :=
  { h with own := World.ownsRow_nil _ _ _ _, bills := (fun e he => by cases he), h1 := Nat.le_trans hb h.h1, h2 := Nat.le_trans hb h.h2 }
/-- two books side by side -/
structure Pair (w : World) (base bk1 m1 bk2 m2 : Nat) (v1 v2 : Value) (L1 L2 : List Ent) : Prop where
  one : BookAt w base bk1 m1 v1 L1
  two : BookAt w base bk2 m2 v2 L2
  apart : ∀ k, BkS bk1 m1 v1 L1 k → ¬ BkS bk2 m2 v2 L2 k
theorem BkS.lt {w : World} {base bk mm : Nat} {v : Value} {L : List Ent} (h : BookAt w base bk mm v L) : ∀ k, BkS bk mm v L k → k < w.heap.size := by
  rintro k (rfl | rfl | hk | hk)
  · exact lt_of_heap h.bkk
  · obtain ⟨es, c, hm, _⟩ := h.map; exact lt_of_heap hm
  · exact (h.own.lt k hk).2
  · obtain ⟨e, he, rfl⟩ := List.mem_map.1 hk
    exact lt_of_heap (h.bills e he).1
theorem Pair.below {w w' : World} {base bk1 m1 bk2 m2 : Nat} {v1 v2 : Value} {L1 L2 : List Ent} (h : Pair w base bk1 m1 bk2 m2 v1 v2 L1 L2) (hb : Below w.heap.size w w') : Pair w' base bk1 m1 bk2 m2 v1 v2 L1 L2 :=
  ⟨h.one.below hb, h.two.below hb, h.apart⟩
theorem Pair.swap {w : World} {base bk1 m1 bk2 m2 : Nat} {v1 v2 : Value} {L1 L2 : List Ent} (h : Pair w base bk1 m1 bk2 m2 v1 v2 L1 L2) : Pair w base bk2 m2 bk1 m1 v2 v1 L2 L1 :=
  ⟨h.two, h.one, fun k h2 h1 => h.apart k h1 h2⟩
theorem Pair.turn {w w' : World} {base bk1 m1 bk2 m2 : Nat} {v1 v2 x : Value} {L1 L2 L' : List Ent} {y : Ending} (h : Pair w base bk1 m1 bk2 m2 v1 v2 L1 L2) (ht : BTurn base bk1 m1 v1 L1 L' x w y w') : ∃ v', Pair w' base bk1 m1 bk2 m2 v' v2 L' L2 := by
  obtain ⟨_, v', h1, h2, f⟩ := ht
  refine ⟨v', h1, h.two.of_fr f (fun k hk hs => h.apart k hs hk), fun k hk hk2 => ?_⟩
  rcases h2 k hk with hq | hq
  · exact h.apart k hq hk2
  · have := BkS.lt h.two k hk2; omega
/-- both books, whatever their rows; and a call's block -/
def TwoB (w0 w : World) (base bk1 m1 bk2 m2 : Nat) (L1 L2 : List Ent) : Prop := ∃ v1 v2, Pair w base bk1 m1 bk2 m2 v1 v2 L1 L2 ∧ Below w0.heap.size w0 w
theorem TwoB.next {w0 w w' : World} {base bk1 m1 bk2 m2 : Nat} {L1 L2 : List Ent} (h : TwoB w0 w base bk1 m1 bk2 m2 L1 L2) (hb : Below w.heap.size w w') : TwoB w0 w' base bk1 m1 bk2 m2 L1 L2 := by
  obtain ⟨v1, v2, p, b⟩ := h
  exact ⟨v1, v2, p.below hb, b.trans (hb.mono b.size)⟩
theorem TwoB.swap {w0 w : World} {base bk1 m1 bk2 m2 : Nat} {L1 L2 : List Ent} (h : TwoB w0 w base bk1 m1 bk2 m2 L1 L2) : TwoB w0 w base bk2 m2 bk1 m1 L2 L1 := by
  obtain ⟨v1, v2, p, b⟩ := h
  exact ⟨v2, v1, p.swap, b⟩
theorem TwoB.turn {w0 w w' : World} {base bk1 m1 bk2 m2 : Nat} {v1 v2 x : Value} {L1 L2 L' : List Ent} {y : Ending} (hb0 : w0.heap.size ≤ base) (h : Pair w base bk1 m1 bk2 m2 v1 v2 L1 L2) (hb : Below w0.heap.size w0 w) (ht : BTurn base bk1 m1 v1 L1 L' x w y w') : TwoB w0 w' base bk1 m1 bk2 m2 L' L2 := by
  have hbel := BTurn.below h.one ht
  obtain ⟨v', p⟩ := h.turn ht
  exact ⟨v', v2, p, hb.trans (hbel.mono hb0)⟩
/-- a block of another type stays where a book turns -/
def Stays (w w' : World) : Prop := ∀ (k : Nat) (cs : Array Value) (t : TypeId) (f : Nat × Nat), t ≠ 90 → t ≠ 22 → t ≠ 58 → w.heap[k]? = some (.cells cs t f) → w'.heap[k]? = some (.cells cs t f)
theorem Stays.below {w w' : World} (h : Below w.heap.size w w') : Stays w w' := fun k _ _ _ _ _ _ hk => (h.block k (lt_of_heap hk)).trans hk
/-- what Ask does to the first of two books -/
def AskD (L L' : List Ent) (pre : ByteArray) (amt now exp delta : Int) (memo : ByteArray) : Prop := (askE L pre amt now exp delta memo ≠ 0 ∧ L' = L) ∨ (askE L pre amt now exp delta memo = 0 ∧ ∃ bb, L' = L ++ [(bb, askB pre amt now exp delta memo)])
section
variable {w0 W : World} {base bk1 m1 bk2 m2 : Nat} {L1 L2 : List Ent}
theorem two_ask (hb0 : w0.heap.size ≤ base) (h : TwoB w0 W base bk1 m1 bk2 m2 L1 L2) (pre : ByteArray) (amt now exp delta : Int) (memo : ByteArray) (hp : pre.size ≤ maxLen) (hmm : memo.size ≤ maxLen) (hL : LibOk W) :
    Calls Tryd.prog 33 #[.pointer (some ⟨bk1, 0, none⟩), .string pre, .int .i64 amt, .int .i64 now, .int .i64 exp, .int .i64 delta, .string memo] W fun y w' => ∃ u x, y = .returned (.tuple #[.string u, .int .i64 x]) ∧ x = askE L1 pre amt now exp delta memo ∧ (x = 0 → u = hashL pre) ∧ (∃ L', AskD L1 L' pre amt now exp delta memo ∧ TwoB w0 w' base bk1 m1 bk2 m2 L' L2) ∧ Stays W w' := by
  obtain ⟨v1, v2, p, b⟩ := h
  refine (ask_sum base bk1 m1 v1 L1 W p.one pre amt now exp delta memo hp hmm hL).mono fun y w' ⟨L', ht, hor⟩ => ?_
  have hst : Stays W w' := fun k cs t f h1 h2 h3 hk => BTurn.keep p.one ht hk h1 h2 h3
  have hv : y = .returned (askV L1 pre amt now exp delta memo) := ht.1
  unfold askV at hv
  by_cases h0 : askE L1 pre amt now exp delta memo = 0
  · rw [if_pos h0] at hv
    exact ⟨_, _, hv, h0.symm, fun _ => rfl, ⟨L', hor, TwoB.turn hb0 p b ht⟩, hst⟩
  · rw [if_neg h0] at hv
    exact ⟨_, _, hv, rfl, fun h => absurd h h0, ⟨L', hor, TwoB.turn hb0 p b ht⟩, hst⟩
theorem two_offer (h : TwoB w0 W base bk1 m1 bk2 m2 L1 L2) (x : ByteArray) (amt now height expiry : Int) : Calls Tryd.prog 29 #[.pointer (some ⟨bk1, 0, none⟩), .string x, .int .i64 amt, .int .i64 now, .int .i64 height, .int .i64 expiry] W fun y w' => y = .returned (offV (findB x L1 0) amt now height expiry) ∧ Below W.heap.size W w' := by
  obtain ⟨v1, v2, p, b⟩ := h
  exact offer_any base bk1 m1 v1 L1 W p.one x amt now height expiry
theorem two_settled (hb0 : w0.heap.size ≤ base) (h : TwoB w0 W base bk1 m1 bk2 m2 L1 L2) (x : ByteArray) : Calls Tryd.prog 31 #[.pointer (some ⟨bk1, 0, none⟩), .string x] W fun y w' => y = .returned (.int .i64 (setE x L1)) ∧ TwoB w0 w' base bk1 m1 bk2 m2 (setL x L1) L2 ∧ Stays W w' := by
  obtain ⟨v1, v2, p, b⟩ := h
  exact (settled_any base bk1 m1 v1 L1 W p.one x).mono fun y w' ht => ⟨ht.1, TwoB.turn hb0 p b ht, fun k cs t f h1 h2 h3 hk => BTurn.keep p.one ht hk h1 h2 h3⟩
theorem two_prune (hb0 : w0.heap.size ≤ base) (h : TwoB w0 W base bk1 m1 bk2 m2 L1 L2) (now : Int) : Calls Tryd.prog 32 #[.pointer (some ⟨bk1, 0, none⟩), .int .i64 now] W fun y w' => y = .returned (.int .i64 ((L1.length : Int) - ((L1.filter (kp now)).length : Int))) ∧ TwoB w0 w' base bk1 m1 bk2 m2 (L1.filter (kp now)) L2 ∧ Stays W w' := by
  obtain ⟨v1, v2, p, b⟩ := h
  exact (prune_any base bk1 m1 v1 L1 W p.one now).mono fun y w' ht => ⟨ht.1, TwoB.turn hb0 p b ht, fun k cs t f h1 h2 h3 hk => BTurn.keep p.one ht hk h1 h2 h3⟩
theorem two_invoice (h : TwoB w0 W base bk1 m1 bk2 m2 L1 L2) (x payee : ByteArray) : Calls Tryd.prog 35 #[.pointer (some ⟨bk1, 0, none⟩), .string x, .string payee] W fun y w' => y = .returned (.tuple #[.agg (invO (findB x L1 0) payee).toArray, .int .i64 (if (findB x L1 0).isSome then 0 else 230)]) ∧ Below W.heap.size W w' := by
  obtain ⟨v1, v2, p, b⟩ := h
  exact invoice_any base bk1 m1 v1 L1 W p.one x payee
theorem two_count (h : TwoB w0 W base bk1 m1 bk2 m2 L1 L2) : Calls Tryd.prog 36 #[.pointer (some ⟨bk1, 0, none⟩)] W fun y w' => y = .returned (.int .i64 L1.length) ∧ Below W.heap.size W w' := by
  obtain ⟨v1, v2, p, b⟩ := h
  exact bcount_any base bk1 m1 v1 L1 W p.one
end
/-- the same bills, in another order -/
def SameB (L1 L2 : List Ent) : Prop := (L1.map (·.2)).Perm (L2.map (·.2))
theorem SameB.len {L1 L2 : List Ent} (h : SameB L1 L2) : L1.length = L2.length := by
  have := h.length_eq
  simpa using this
theorem SameB.find {L1 L2 : List Ent} (h : SameB L1 L2) (h1 : (L1.map (·.2.hash)).Nodup) (h2 : (L2.map (·.2.hash)).Nodup) (x : ByteArray) : (findB x L1 0).map (·.2.2) = (findB x L2 0).map (·.2.2) := by
  cases hf : findB x L1 0 with
  | none =>
    have hn := findB_none.1 hf
    have : findB x L2 0 = none := by
      rw [findB_none]
      intro e he hx
      have hm : e.2 ∈ L1.map (·.2) := h.mem_iff.2 (List.mem_map.2 ⟨e, he, rfl⟩)
      obtain ⟨e', he', heq⟩ := List.mem_map.1 hm
      exact hn e' he' (by rw [heq]; exact hx)
    rw [this]
  | some q =>
    obtain ⟨j, e⟩ := q
    obtain ⟨hm, hx⟩ := findB_mem hf
    have hm2 : e.2 ∈ L2.map (·.2) := h.mem_iff.1 (List.mem_map.2 ⟨e, hm, rfl⟩)
    obtain ⟨e', he', heq⟩ := List.mem_map.1 hm2
    cases hg : findB x L2 0 with
    | none => exact absurd (by rw [heq]; exact hx) (findB_none.1 hg e' he')
    | some r =>
      obtain ⟨i, e''⟩ := r
      obtain ⟨hm3, hx3⟩ := findB_mem hg
      have : e'' = e' := uni_ent h2 hm3 he' (by rw [hx3, heq, hx])
      subst this
      simp [heq]
theorem SameB.pay {L1 L2 : List Ent} (h : SameB L1 L2) (x : ByteArray) : SameB (payB x L1) (payB x L2) := by
  have hp : ∀ L : List Ent, (payB x L).map (·.2) = (L.map (·.2)).map fun b => if (x == b.hash) = true then { b with paid := true } else b := fun L => by
    unfold payB
    rw [List.map_map, List.map_map]
    apply List.map_congr_left
    intro e _
    simp only [Function.comp]
    split <;> rfl
  unfold SameB at *
  rw [hp, hp]
  exact h.map _
theorem SameB.prune {L1 L2 : List Ent} (h : SameB L1 L2) (now : Int) : SameB (L1.filter (kp now)) (L2.filter (kp now)) := by
  have hp : ∀ L : List Ent, (L.filter (kp now)).map (·.2) = (L.map (·.2)).filter fun b => b.paid || !lateB b now := fun L => by
    rw [List.filter_map]; rfl
  unfold SameB at *
  rw [hp, hp]
  exact h.filter _
theorem offV_congr {o o' : Option (Nat × Ent)} (h : o.map (·.2.2) = o'.map (·.2.2)) (amt now height expiry : Int) : offV o amt now height expiry = offV o' amt now height expiry := by
  cases o <;> cases o' <;> simp at h
  · rfl
  · unfold offV; simp only [h]
theorem offV_shape (o : Option (Nat × Ent)) (amt now height expiry : Int) : ∃ u x, offV o amt now height expiry = .tuple #[.string u, .int .i64 x] := by
  unfold offV
  cases o with
  | none => exact ⟨_, _, rfl⟩
  | some q => simp only; split <;> exact ⟨_, _, rfl⟩
theorem invO_congr {o o' : Option (Nat × Ent)} (h : o.map (·.2.2) = o'.map (·.2.2)) (payee : ByteArray) : invO o payee = invO o' payee ∧ o.isSome = o'.isSome := by
  cases o <;> cases o' <;> simp at h
  · exact ⟨rfl, rfl⟩
  · unfold invO; simp only [h]; exact ⟨trivial, rfl⟩
theorem invO_shape (o : Option (Nat × Ent)) (payee : ByteArray) : ∃ (a b : Int) (h p m : ByteArray) (c d : Int), invO o payee = invC a b h p m c d := by
  cases o <;> exact ⟨_, _, _, _, _, _, _, rfl⟩
theorem setE_find (x : ByteArray) (L : List Ent) : setE x L = match (findB x L 0).map (·.2.2) with | none => 230 | some b => if b.paid = true then 232 else 0 := by
  unfold setE
  cases findB x L 0 <;> rfl
theorem SameB.set {L1 L2 : List Ent} (h : SameB L1 L2) (h1 : (L1.map (·.2.hash)).Nodup) (h2 : (L2.map (·.2.hash)).Nodup) (x : ByteArray) : setE x L1 = setE x L2 ∧ SameB (setL x L1) (setL x L2) := by
  have he : setE x L1 = setE x L2 := by rw [setE_find, setE_find, h.find h1 h2 x]
  refine ⟨he, ?_⟩
  unfold setL
  rw [he]
  split
  · exact h.pay x
  · exact h
theorem askE_zero {L : List Ent} {pre : ByteArray} {amt now exp delta : Int} {memo : ByteArray} : askE L pre amt now exp delta memo = 0 ↔ askE [] pre amt now exp delta memo = 0 ∧ findB (hashL pre) L 0 = none ∧ L.length < 256 := by
  unfold askE
  have h0 : (findB (hashL pre) [] 0).isSome = false := rfl
  have h1 : ¬ 256 ≤ ([] : List Ent).length := by simp
  by_cases c1 : rt pre = false
  · simp only [if_pos c1]; constructor
    · intro h; cases h
    · rintro ⟨h, _⟩; cases h
  simp only [if_neg c1]
  by_cases c2 : rt (hashL pre) = false ∨ 639 < (hashL pre).size
  · simp only [if_pos c2]; constructor
    · intro h; cases h
    · rintro ⟨h, _⟩; cases h
  simp only [if_neg c2]
  by_cases c3 : amt < 0 ∨ 2100000000000000000 < amt
  · simp only [if_pos c3]; constructor
    · intro h; cases h
    · rintro ⟨h, _⟩; cases h
  simp only [if_neg c3]
  by_cases c4 : now / 34359738368 ≠ 0 ∨ exp / 34359738368 ≠ 0 ∨ delta / 2147483648 ≠ 0 ∨ 639 < memo.size
  · simp only [if_pos c4]; constructor
    · intro h; cases h
    · rintro ⟨h, _⟩; cases h
  simp only [if_neg c4, h0, Bool.false_eq_true, if_false, h1, true_and]
  cases hf : findB (hashL pre) L 0 with
  | some q => simp
  | none =>
    simp only [Option.isSome_none, Bool.false_eq_true, if_false, true_and]
    by_cases h : 256 ≤ L.length
    · rw [if_pos h]; constructor
      · intro h; cases h
      · intro h'; omega
    · rw [if_neg h]; exact ⟨fun _ => by omega, fun _ => rfl⟩
/-- two bills asked in either order -/
theorem order_start {p q : ByteArray} {pa pn pe pd qa qn qe qd : Int} {ps qs : ByteArray} {La1 La2 Lb1 Lb2 : List Ent}
    (h1 : AskD [] La1 p pa pn pe pd ps) (h2 : AskD La1 La2 q qa qn qe qd qs) (h3 : AskD [] Lb1 q qa qn qe qd qs) (h4 : AskD Lb1 Lb2 p pa pn pe pd ps)
    (e1 : askE [] p pa pn pe pd ps = 0) (e2 : askE La1 q qa qn qe qd qs = 0) : askE [] q qa qn qe qd qs = 0 ∧ askE Lb1 p pa pn pe pd ps = 0 ∧ SameB La2 Lb2 := by
  obtain ⟨_, b1, rfl⟩ := h1.resolve_left (fun h => h.1 e1)
  obtain ⟨_, b2, rfl⟩ := h2.resolve_left (fun h => h.1 e2)
  obtain ⟨e3, hf, _⟩ := askE_zero.1 e2
  obtain ⟨_, b3, rfl⟩ := h3.resolve_left (fun h => h.1 e3)
  have e4 : askE ([] ++ [(b3, askB q qa qn qe qd qs)]) p pa pn pe pd ps = 0 := by
    refine askE_zero.2 ⟨e1, ?_, by simp⟩
    rw [findB_none]
    intro e he hx
    simp only [List.nil_append, List.mem_singleton] at he
    subst he
    exact findB_none.1 hf (b1, askB p pa pn pe pd ps) (by simp) hx.symm
  obtain ⟨_, b4, rfl⟩ := h4.resolve_left (fun h => h.1 e4)
  refine ⟨e3, e4, ?_⟩
  unfold SameB
  exact List.Perm.swap _ _ _
end Go.Proofs.YtnaodgljdbkmnaaDoor
