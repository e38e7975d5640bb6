/- The document's relay: Open. -/
import Derived.Test.YtjdbnaedlljfhaaDocA
namespace Go.Proofs.Ytjdbnaedlljfhaa
open Go.RowKit
def namedB (n : ByteArray) : Bool := decide (1 ≤ n.size) && decide (n.size ≤ 100)
set_option maxRecDepth 100000 in
set_option maxHeartbeats 1000000 in
theorem named_any (n : ByteArray) (w : World) (hn : n.size ≤ maxLen) : Calls Try.prog 41 #[.string n] w fun e w' => e = .returned (.bool (namedB n)) ∧ w = w' := by
  unfold maxLen at hn
  unfold namedB
  by_cases h1 : 1 ≤ n.size
  · by_cases h2 : n.size ≤ 100
    · have d1 : decide (1 ≤ n.size) = true := by simpa using h1
      have d2 : decide (n.size ≤ 100) = true := by simpa using h2
      rw [d1, d2]
      have i1 : (1 : Int) ≤ (n.size : Int) := by omega
      have i2 : (n.size : Int) ≤ 100 := by omega
      have i4 : decide ((n.size : Int) ≤ 100) = true := by simpa using i2
      have i5 : decide ((1 : Int) ≤ (n.size : Int)) = true := by simpa using i1
      go_enter Try.func41, Try.ntmps41
      go_wp2
      go_ret
      exact ⟨rfl, rfl⟩
    · have d1 : decide (1 ≤ n.size) = true := by simpa using h1
      have d2 : decide (n.size ≤ 100) = false := by simpa using h2
      rw [d1, d2]
      have i1 : (1 : Int) ≤ (n.size : Int) := by omega
      have i2 : ¬ (n.size : Int) ≤ 100 := by omega
      have i3 : decide ((n.size : Int) ≤ 100) = false := by simpa using i2
      go_enter Try.func41, Try.ntmps41
      go_wp2
      go_ret
      exact ⟨rfl, rfl⟩
  · have d1 : decide (1 ≤ n.size) = false := by simpa using h1
    rw [d1]
    have i1 : ¬ (1 : Int) ≤ (n.size : Int) := by omega
    have i3 : decide ((1 : Int) ≤ (n.size : Int)) = false := by simpa using i1
    go_enter Try.func41, Try.ntmps41
    go_wp2
    go_ret
    exact ⟨rfl, rfl⟩
theorem mayB_named (n : ByteArray) (i : Int) : mayB n i = (namedB n && decide (0 ≤ i)) := by
  unfold mayB namedB
  have h : (!n.toList.isEmpty) = decide (1 ≤ n.size) := by
    rw [ByteArray.toList_eq]
    obtain ⟨⟨l⟩⟩ := n
    cases l with
    | nil => rfl
    | cons a l =>
      have : decide (1 ≤ (⟨⟨a :: l⟩⟩ : ByteArray).size) = true := by
        rw [decide_eq_true_eq]; show 1 ≤ (a :: l).length; rw [List.length_cons]; omega
      rw [this]; rfl
  rw [h]
theorem named_b (n : ByteArray) (b : Bool) (hb : namedB n = b) (hn : n.size ≤ maxLen) (w : World) : Calls Try.prog 41 #[.string n] w fun e w' => e = .returned (.bool b) ∧ w = w' := hb ▸ named_any n w hn
set_option maxRecDepth 100000 in
set_option maxHeartbeats 1000000 in
theorem docopen_a (mb : Nat) (c : Circ) (hc : c.fits) (w : World) (ha : namedB c.ic = false) : Calls Try.prog 23 #[.pointer (some ⟨mb, 0, none⟩), .agg #[.string c.ic, .int .i64 c.ii, .string c.oc, .int .i64 c.oi, .int .i64 c.ia, .int .i64 c.oa, .int .i64 c.ie, .int .i64 c.oe, .string c.hash, .string c.sh]] w fun e w' => e = .returned (.int .i64 2) ∧ Below w.heap.size w w' := by
  have NA := Lib.hid (named_b c.ic false ha hc.1)
  go_enter Try.func23, Try.ntmps23
  go_wp2_with (first
    | (go_at_call 41; (with_reducible refine Calls.mono (NA.out _) ?_); rintro e w1 ⟨rfl, rfl⟩))
  go_ret
  exact ⟨rfl, below_new' _ _⟩
set_option maxRecDepth 100000 in
set_option maxHeartbeats 1000000 in
theorem docopen_b (mb : Nat) (c : Circ) (hc : c.fits) (w : World) (ha : namedB c.ic = true) (hb : namedB c.oc = false) : Calls Try.prog 23 #[.pointer (some ⟨mb, 0, none⟩), .agg #[.string c.ic, .int .i64 c.ii, .string c.oc, .int .i64 c.oi, .int .i64 c.ia, .int .i64 c.oa, .int .i64 c.ie, .int .i64 c.oe, .string c.hash, .string c.sh]] w fun e w' => e = .returned (.int .i64 2) ∧ Below w.heap.size w w' := by
  have NA := Lib.hid (named_b c.ic true ha hc.1)
  have NB := Lib.hid (named_b c.oc false hb hc.2)
  go_enter Try.func23, Try.ntmps23
  go_wp2_with (first
    | (go_at_call 41; (with_reducible refine Calls.mono (NA.out _) ?_); rintro e w1 ⟨rfl, rfl⟩)
    | (go_at_call 41; (with_reducible refine Calls.mono (NB.out _) ?_); rintro e w1 ⟨rfl, rfl⟩))
  go_ret
  exact ⟨rfl, below_new' _ _⟩
set_option maxRecDepth 100000 in
set_option maxHeartbeats 1000000 in
theorem docopen_c (mb : Nat) (c : Circ) (hc : c.fits) (w : World) (ha : namedB c.ic = true) (hb : namedB c.oc = true) (hx : c.ii < 0) : Calls Try.prog 23 #[.pointer (some ⟨mb, 0, none⟩), .agg #[.string c.ic, .int .i64 c.ii, .string c.oc, .int .i64 c.oi, .int .i64 c.ia, .int .i64 c.oa, .int .i64 c.ie, .int .i64 c.oe, .string c.hash, .string c.sh]] w fun e w' => e = .returned (.int .i64 2) ∧ Below w.heap.size w w' := by
  have NA := Lib.hid (named_b c.ic true ha hc.1)
  have NB := Lib.hid (named_b c.oc true hb hc.2)
  go_enter Try.func23, Try.ntmps23
  go_wp2_with (first
    | (go_at_call 41; (with_reducible refine Calls.mono (NA.out _) ?_); rintro e w1 ⟨rfl, rfl⟩)
    | (go_at_call 41; (with_reducible refine Calls.mono (NB.out _) ?_); rintro e w1 ⟨rfl, rfl⟩))
  go_ret
  exact ⟨rfl, below_new' _ _⟩
set_option maxRecDepth 100000 in
set_option maxHeartbeats 1000000 in
theorem docopen_d (mb : Nat) (c : Circ) (hc : c.fits) (w : World) (ha : namedB c.ic = true) (hb : namedB c.oc = true) (hx : decide (c.ii < 0) = false) (hy : c.oi < 0) : Calls Try.prog 23 #[.pointer (some ⟨mb, 0, none⟩), .agg #[.string c.ic, .int .i64 c.ii, .string c.oc, .int .i64 c.oi, .int .i64 c.ia, .int .i64 c.oa, .int .i64 c.ie, .int .i64 c.oe, .string c.hash, .string c.sh]] w fun e w' => e = .returned (.int .i64 2) ∧ Below w.heap.size w w' := by
  have NA := Lib.hid (named_b c.ic true ha hc.1)
  have NB := Lib.hid (named_b c.oc true hb hc.2)
  go_enter Try.func23, Try.ntmps23
  go_wp2_with (first
    | (go_at_call 41; (with_reducible refine Calls.mono (NA.out _) ?_); rintro e w1 ⟨rfl, rfl⟩)
    | (go_at_call 41; (with_reducible refine Calls.mono (NB.out _) ?_); rintro e w1 ⟨rfl, rfl⟩))
  go_ret
  exact ⟨rfl, below_new' _ _⟩
theorem docopen_no (mb : Nat) (c : Circ) (hc : c.fits) (w : World) (h : (mayB c.ic c.ii && mayB c.oc c.oi) = false) : Calls Try.prog 23 #[.pointer (some ⟨mb, 0, none⟩), .agg #[.string c.ic, .int .i64 c.ii, .string c.oc, .int .i64 c.oi, .int .i64 c.ia, .int .i64 c.oa, .int .i64 c.ie, .int .i64 c.oe, .string c.hash, .string c.sh]] w fun e w' => e = .returned (.int .i64 2) ∧ Below w.heap.size w w' := by
  rw [mayB_named, mayB_named] at h
  cases ha : namedB c.ic with
  | false => exact docopen_a mb c hc w ha
  | true =>
    cases hb : namedB c.oc with
    | false => exact docopen_b mb c hc w ha hb
    | true =>
      by_cases hx : c.ii < 0
      · exact docopen_c mb c hc w ha hb hx
      · refine docopen_d mb c hc w ha hb (by simpa using hx) ?_
        rw [ha, hb] at h
        by_cases hy : c.oi < 0
        · exact hy
        · rw [decide_eq_true (by omega : 0 ≤ c.ii), decide_eq_true (by omega : 0 ≤ c.oi)] at h
          exact absurd h (by decide)
end Go.Proofs.Ytjdbnaedlljfhaa
