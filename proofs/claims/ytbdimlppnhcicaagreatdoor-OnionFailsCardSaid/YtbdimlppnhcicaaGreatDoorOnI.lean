/- what a layer says -/
import Derived.Test.YtbdimlppnhcicaaGreatDoorOnH
namespace Go.Proofs.YtbdimlppnhcicaaGreatDoor
set_option linter.unusedVariables false
open Go.RowKit
/-! onion: parts in new memory; what a layer says -/
def StrsN (B : Nat) (o : Option Addr) (vs : List ByteArray) (w : World) : Prop := vs = [] ∨ ∃ b, o = some ⟨b, 0, none⟩ ∧ B ≤ b ∧ ∀ (k : Nat) (s : ByteArray), vs[k]? = some s → w.cell? ⟨b, k, none⟩ = some (.string s)
theorem StrsN.below {B : Nat} {o : Option Addr} {vs : List ByteArray} {w w' : World} (h : StrsN B o vs w) (hb : Below w.heap.size w w') : StrsN B o vs w' := by
  rcases h with h | ⟨b, h1, h2, h3⟩
  · exact .inl h
  · exact .inr ⟨b, h1, h2, fun k s hk => cell_later hb (h3 k s hk)⟩
theorem StrsN.strs {B : Nat} {o : Option Addr} {vs : List ByteArray} {w : World} (h : StrsN B o vs w) : StrsAt o vs w := by
  rcases h with h | ⟨b, h1, h2, h3⟩
  · exact .inl h
  · exact .inr ⟨b, 0, h1, fun k s hk => by rw [Nat.zero_add]; exact h3 k s hk⟩
theorem kids_new {B : Nat} {o : Option Addr} {m c : Nat} {ks : List (List UInt8)} {w : World} (h : KidsAt B (.slice o m c) ks w) :
    ks.length = m ∧ StrsN B o (ks.map fun k => (⟨k.toArray⟩ : ByteArray)) w := by
  refine ⟨(kids_strs h).1, ?_⟩
  obtain ⟨vs, hvs, hown⟩ := h
  have e : (ks.map fun k => (⟨k.toArray⟩ : ByteArray)) = vs := by
    rw [← hvs, List.map_map]
    have : ((fun k : List UInt8 => (⟨k.toArray⟩ : ByteArray)) ∘ fun v : ByteArray => v.data.toList) = id := by
      funext v; apply ByteArray.ext; simp
    rw [this, List.map_id]
  rw [e]
  rcases Nat.eq_zero_or_pos vs.length with h0 | hpos
  · exact .inl (List.length_eq_zero_iff.1 h0)
  · obtain ⟨g, cap, e1, _, e3⟩ := own_cells hown hpos
    obtain ⟨g', cap', cur, e1', e2, _⟩ := row_cellsG hown hpos
    cases e1
    cases e1'
    exact .inr ⟨g, rfl, e2, fun k s hk => e3 k _ (by rw [List.getElem?_map, hk]; rfl)⟩
def OneFormN (q : Op4) (w : World) (e : Ending) (w' : World) : Prop :=
  Below w.heap.size w w' ∧ ∃ o k, e = .returned (.tuple #[.agg #[.int .u8 q.op, .int .i64 q.n, .string q.u, .slice o q.vs.length k], .bool q.b]) ∧ StrsN w.heap.size o q.vs w'
theorem one_formN {l : List UInt8} {w w' : World} {e : Ending} (h : OpenPost (readP l) w e w') : OneFormN (op4 l) w e w' := by
  obtain ⟨hb, hno, hyes⟩ := h
  refine ⟨hb, ?_⟩
  unfold op4
  cases hx : readP l with
  | none => exact ⟨none, 0, hno hx, .inl rfl⟩
  | some x =>
    obtain ⟨u, ko, km, kc, rfl, hu, hK⟩ := hyes x hx
    obtain ⟨h1, h2⟩ := kids_new hK
    refine ⟨ko, kc, ?_, h2⟩
    simp only [List.length_map]
    rw [h1, ← hu]
def KidsPostN (q : Op4) (n : Nat) (w : World) (e : Ending) (w' : World) : Prop :=
  Below w.heap.size w w' ∧ ∃ o k, e = .returned (.tuple #[.slice o q.vs.length k, .bool (isT q n)]) ∧ StrsN w.heap.size o q.vs w'
theorem popenN (t : ByteArray) (w : World) (hm : t.size ≤ maxLen) (hL : LibOk w) : Calls Tryz.prog 120 #[.string t] w (OneFormN (op4 t.data.toList) w) := (open_any t w hm hL).mono fun _ _ h => one_formN h
theorem dopenN (t : ByteArray) (w : World) (hm : t.size ≤ maxLen) : Calls Tryz.prog 124 #[.string t] w (OneFormN (op4 t.data.toList) w) := (ropen_any t w hm).mono fun _ _ h => one_formN h
set_option maxRecDepth 100000 in
set_option maxHeartbeats 4000000 in
theorem otuple_new (t : ByteArray) (n : Nat) (w : World) (q : Op4) (hn : n ≤ 100) (HO : Calls Tryz.prog 120 #[.string t] w (OneFormN q w)) : Calls Tryz.prog 60 #[.string t, .int .i64 n] w (KidsPostN q n w) := by
  have H := Lib.hid HO
  clear HO
  obtain ⟨op, qn, u, vs, b⟩ := q
  go_enter Tryz.func60, Tryz.ntmps60
  go_upto_region 2 with (go_at_call 120; (with_reducible refine Calls.mono H.out ?_); rintro e w1 ⟨hb, o, k, rfl, hs⟩; have B1 := Lib.hid hb; have S1 := Lib.hid hs; clear hb hs)
  have B2 := Lib.hid (B1.out.alloc B1.out.size (.cells #[.int .u8 op, .int .i64 qn, .string u, .slice o vs.length k] 192))
  have S2 := Lib.hid (S1.out.below (below_new' w1 (.cells #[.int .u8 op, .int .i64 qn, .string u, .slice o vs.length k] 192)))
  have CX := heap_alloc_at w1 (.cells #[.int .u8 op, .int .i64 qn, .string u, .slice o vs.length k] 192)
  obtain ⟨x0, x1, x2, x3⟩ := four CX
  clear CX x1
  try simp only at x0 x2 x3 B2 S2 ⊢
  generalize w1.alloc (.cells #[.int .u8 op, .int .i64 qn, .string u, .slice o vs.length k] 192) = w2 at B2 S2 x0 x2 x3 ⊢
  generalize w1.heap.size = xb at x0 x2 x3 ⊢
  cases b with
  | false =>
    go_quiet (fail)
    go_wp2_with fail
    go_ret2
    exact ⟨below_drewN B2.out nq, o, k, rfl, S2.out.below (drewN_same w2 nq).1⟩
  | true =>
    by_cases h84 : op = 84
    · subst h84
      have HV : Hid (isT ⟨84, qn, u, vs, true⟩ n = (vs.length == n)) := rfl
      by_cases hl : vs.length = n
      · have e3 : ((vs.length : Int) == (n : Int)) = true := by simp [hl]
        have HW : Hid ((vs.length == n) = true) := by show _ = _; simp [hl]
        clear hl
        go_quiet (fail)
        go_wp2_with fail
        go_ret2
        exact ⟨below_drewN B2.out nq, o, k, by rw [HV.out, HW.out]; rfl, S2.out.below (drewN_same w2 nq).1⟩
      · have e3 : ((vs.length : Int) == (n : Int)) = false := by simp; omega
        have HW : Hid ((vs.length == n) = false) := by show _ = _; simp [hl]
        clear hl
        go_quiet (fail)
        go_wp2_with fail
        go_ret2
        exact ⟨below_drewN B2.out nq, o, k, by rw [HV.out, HW.out]; rfl, S2.out.below (drewN_same w2 nq).1⟩
    · have e1 : (op == 84) = false := by simpa using h84
      have e2 : ((op : Int) == 84) = false := by simp; omega
      have HW : Hid (isT ⟨op, qn, u, vs, true⟩ n = false) := by show _ = _; unfold isT; rw [show ((⟨op, qn, u, vs, true⟩ : Op4).op == 84) = false from e1]; rfl
      clear h84
      go_quiet (fail)
      go_wp2_with fail
      go_ret2
      exact ⟨below_drewN B2.out nq, o, k, by rw [HW.out]; rfl, S2.out.below (drewN_same w2 nq).1⟩
set_option maxRecDepth 100000 in
set_option maxHeartbeats 4000000 in
theorem dtuple_new (t : ByteArray) (n : Nat) (w : World) (q : Op4) (hn : n ≤ 100) (HO : Calls Tryz.prog 124 #[.string t] w (OneFormN q w)) : Calls Tryz.prog 64 #[.string t, .int .i64 n] w (KidsPostN q n w) := by
  have H := Lib.hid HO
  clear HO
  obtain ⟨op, qn, u, vs, b⟩ := q
  go_enter Tryz.func64, Tryz.ntmps64
  go_upto_region 2 with (go_at_call 124; (with_reducible refine Calls.mono H.out ?_); rintro e w1 ⟨hb, o, k, rfl, hs⟩; have B1 := Lib.hid hb; have S1 := Lib.hid hs; clear hb hs)
  have B2 := Lib.hid (B1.out.alloc B1.out.size (.cells #[.int .u8 op, .int .i64 qn, .string u, .slice o vs.length k] 192))
  have S2 := Lib.hid (S1.out.below (below_new' w1 (.cells #[.int .u8 op, .int .i64 qn, .string u, .slice o vs.length k] 192)))
  have CX := heap_alloc_at w1 (.cells #[.int .u8 op, .int .i64 qn, .string u, .slice o vs.length k] 192)
  obtain ⟨x0, x1, x2, x3⟩ := four CX
  clear CX x1
  try simp only at x0 x2 x3 B2 S2 ⊢
  generalize w1.alloc (.cells #[.int .u8 op, .int .i64 qn, .string u, .slice o vs.length k] 192) = w2 at B2 S2 x0 x2 x3 ⊢
  generalize w1.heap.size = xb at x0 x2 x3 ⊢
  cases b with
  | false =>
    go_quiet (fail)
    go_wp2_with fail
    go_ret2
    exact ⟨below_drewN B2.out nq, o, k, rfl, S2.out.below (drewN_same w2 nq).1⟩
  | true =>
    by_cases h84 : op = 84
    · subst h84
      have HV : Hid (isT ⟨84, qn, u, vs, true⟩ n = (vs.length == n)) := rfl
      by_cases hl : vs.length = n
      · have e3 : ((vs.length : Int) == (n : Int)) = true := by simp [hl]
        have HW : Hid ((vs.length == n) = true) := by show _ = _; simp [hl]
        clear hl
        go_quiet (fail)
        go_wp2_with fail
        go_ret2
        exact ⟨below_drewN B2.out nq, o, k, by rw [HV.out, HW.out]; rfl, S2.out.below (drewN_same w2 nq).1⟩
      · have e3 : ((vs.length : Int) == (n : Int)) = false := by simp; omega
        have HW : Hid ((vs.length == n) = false) := by show _ = _; simp [hl]
        clear hl
        go_quiet (fail)
        go_wp2_with fail
        go_ret2
        exact ⟨below_drewN B2.out nq, o, k, by rw [HV.out, HW.out]; rfl, S2.out.below (drewN_same w2 nq).1⟩
    · have e1 : (op == 84) = false := by simpa using h84
      have e2 : ((op : Int) == 84) = false := by simp; omega
      have HW : Hid (isT ⟨op, qn, u, vs, true⟩ n = false) := by show _ = _; unfold isT; rw [show ((⟨op, qn, u, vs, true⟩ : Op4).op == 84) = false from e1]; rfl
      clear h84
      go_quiet (fail)
      go_wp2_with fail
      go_ret2
      exact ⟨below_drewN B2.out nq, o, k, by rw [HW.out]; rfl, S2.out.below (drewN_same w2 nq).1⟩
/-- parts and texts are short -/
theorem op4_kid (l : List UInt8) : ∀ k ∈ (op4 l).vs, k.size ≤ 16384 := by
  intro k hk
  unfold op4 at hk
  cases hx : readP l with
  | none => rw [hx] at hk; simp at hk
  | some x =>
    rw [hx] at hk
    simp only [List.mem_map] at hk
    obtain ⟨c, hc, rfl⟩ := hk
    have h1 := (read_kids hx c hc).2
    have h2 := (read_parse hx).2
    show (c.toArray).size ≤ 16384
    rw [List.size_toArray]; omega
theorem op4_text (l : List UInt8) : (op4 l).u.size ≤ 16384 := by
  unfold op4
  cases hx : readP l with
  | none => exact Nat.zero_le _
  | some x =>
    obtain ⟨hp, hl⟩ := read_parse hx
    show (x.text.toArray).size ≤ 16384
    rw [List.size_toArray]
    cases l with
    | nil => rw [parse_nil] at hp; cases hp
    | cons op r =>
      simp only [parse] at hp
      split at hp
      · split at hp
        · cases hp
        · cases hp; exact Nat.zero_le _
      · split at hp
        · split at hp
          · cases hp
          · split at hp
            · rename_i hn
              have h2 := Option.some.inj hp
              have h3 := congrArg (fun y => y.1.text.length) h2
              simp only [List.length_take] at h3
              omega
            · cases hp
        · split at hp
          · cases hp
          · split at hp
            · cases hp
            · split at hp
              · cases hp; exact Nat.zero_le _
              · cases hp
structure Lay where
  chan : ByteArray
  amt : Int
  exp : Int
  pay : ByteArray
  inner : ByteArray
  last : Bool
def Lay.cells (x : Lay) (s : ByteArray) : Array Value := #[.string x.chan, .int .i64 x.amt, .int .i64 x.exp, .string x.pay, .string x.inner, .string s, .bool x.last]
def t0 : ByteArray := ⟨#[84, 48, 58]⟩
def e0 : ByteArray := ⟨#[]⟩
def lay0 : Lay := ⟨e0, 0, 0, e0, e0, false⟩
def numO (q : Op4) (most : Nat) : Option Nat := if isX q then numN q.u.data.toList most else none
/-- what the parts of a layer say -/
def layP (n a x : Op4) (p3 l1 : ByteArray) : Option Lay :=
  match isX n, numO a 2100000000000000000, numO x 2147483647 with
  | true, some a, some x => if 100 < n.u.size then none else if n.u = e0 then (if l1 = t0 then some ⟨n.u, a, x, p3, e0, true⟩ else none) else if p3 = t0 then some ⟨n.u, a, x, e0, l1, false⟩ else none
  | _, _, _ => none
def layO (t : ByteArray) : Option Lay :=
  if isT (op4 t.data.toList) 2 then
    match (op4 t.data.toList).vs with
    | [l0, l1] =>
      if isT (op4 l0.data.toList) 4 then
        match (op4 l0.data.toList).vs with
        | [p0, p1, p2, p3] => layP (op4 p0.data.toList) (op4 p1.data.toList) (op4 p2.data.toList) p3 l1
        | _ => none
      else none
    | _ => none
  else none
def LayPost (o : Option Lay) (w : World) (e : Ending) (w' : World) : Prop :=
  Below w.heap.size w w' ∧ ∃ x : Lay, e = .returned (.tuple #[.agg (x.cells e0), .bool o.isSome]) ∧ ∀ y, o = some y → x = y
theorem isT_vs {q : Op4} {n : Nat} (h : isT q n = true) : q.vs.length = n := by
  unfold isT at h
  simp only [Bool.and_eq_true, beq_iff_eq] at h
  exact h.2
theorem two_of {vs : List ByteArray} (h : vs.length = 2) : ∃ a b, vs = [a, b] := by
  match vs, h with
  | [a, b], _ => exact ⟨a, b, rfl⟩
theorem four_of {vs : List ByteArray} (h : vs.length = 4) : ∃ a b c d, vs = [a, b, c, d] := by
  match vs, h with
  | [a, b, c, d], _ => exact ⟨a, b, c, d, rfl⟩
theorem num_some {q : Op4} {most : Nat} : (isX q && (numN q.u.data.toList most).isSome) = (numO q most).isSome := by
  unfold numO
  cases isX q <;> rfl
end Go.Proofs.YtbdimlppnhcicaaGreatDoor
