/- onion: what reads terms -/
import Derived.Test.YtbdimlppnhcicaaGreatDoorVa
import Derived.Test.YtbdimlppnhcicaaGreatDoorBldG
import Derived.Test.YtbdimlppnhcicaaGreatDoorAgree
import Derived.Test.YtbdimlppnhcicaaGreatDoorAgrees
import Derived.Test.YtbdimlppnhcicaaGreatDoorPlainD
import Derived.Test.YtbdimlppnhcicaaGreatDoorLater
import Derived.Test.YtbdimlppnhcicaaGreatDoorKeysP
import Derived.Test.YtbdimlppnhcicaaGreatDoorOpens
import Derived.WalkKit
import Derived.BigQuiet
namespace Go.Proofs.YtbdimlppnhcicaaGreatDoor
set_option linter.unusedVariables false
open Go.RowKit
/-! onion: what reads terms -/
theorem lt_of_heap {w : World} {b : Nat} {o : Obj} (h : w.heap[b]? = some o) : b < w.heap.size := (Array.getElem?_eq_some_iff.1 h).1
theorem own_slice {w : World} {base E size n : Nat} {v : Value} {xs : List Value} (h : w.ownsRow base E size v n xs) : ∃ a c, v = .slice a n c := by
  rcases h.2 with ⟨rfl, rfl⟩ | ⟨g, cap, cur, rfl, _⟩
  · exact ⟨none, 0, rfl⟩
  · exact ⟨_, cap, rfl⟩
theorem own_blocks {w w' : World} {base E size n : Nat} {v : Value} {xs : List Value} (h : w.ownsRow base E size v n xs) (hk : ∀ g, v.ownBlock = some g → w'.heap[g]? = w.heap[g]?) : w'.ownsRow base E size v n xs := by
  refine ⟨h.1, ?_⟩
  rcases h.2 with hn | ⟨g, cap, cur, rfl, hb, hgg, rest⟩
  · exact .inl hn
  · exact .inr ⟨g, cap, cur, rfl, hb, (hk g rfl).trans hgg, rest⟩
theorem own_below {w w' : World} {base E size n : Nat} {v : Value} {xs : List Value} (h : w.ownsRow base E size v n xs) (hb : Below w.heap.size w w') : w'.ownsRow base E size v n xs := own_blocks h fun g hg => hb.block g (h.lt g hg).2
theorem type_ne {w : World} {a b : Nat} {cs ds : Array Value} {t u : TypeId} {f f' : Nat × Nat} (h : w.heap[a]? = some (.cells cs t f)) (h' : w.heap[b]? = some (.cells ds u f')) (hne : t ≠ u) : a ≠ b := by
  rintro rfl
  rw [h] at h'
  injection h' with h'
  injection h' with _ h'
  exact hne h'
theorem own_neT {w : World} {base t u size n b : Nat} {v : Value} {xs : List Value} {cs : Array Value} {fr : Nat × Nat} (h : w.ownsRow base t size v n xs) (hb : w.heap[b]? = some (.cells cs u fr)) (ht : u ≠ t) : ∀ g, v.ownBlock = some g → g ≠ b := by
  intro g hg e
  subst e
  rcases h.2 with ⟨hv, _⟩ | ⟨g', cap', cur, hv, _, hgg, _⟩
  · rw [hv] at hg; cases hg
  · rw [hv] at hg
    simp only [Value.ownBlock, Option.some.injEq] at hg
    subst hg
    rw [hb] at hgg
    injection hgg with hgg
    injection hgg with _ h2 _
    exact ht h2
theorem row_cellsG {w : World} {base t sz n : Nat} {v : Value} {xs : List Value} (h : w.ownsRow base t sz v n xs) (hn : 0 < n) : ∃ g cap cur, v = .slice (some ⟨g, 0, none⟩) n cap ∧ base ≤ g ∧ w.heap[g]? = some (.cells cur t (0, 0)) ∧ n ≤ cap ∧ cap ≤ maxLen ∧ cur.size = cap * sz ∧ (∀ i, i < n * sz → cur[i]? = xs[i]?) := by
  rcases h.2 with ⟨_, h0⟩ | ⟨g, cap, cur, hv, hg, hh, hc, hm, hs, ht⟩
  · omega
  · refine ⟨g, cap, cur, hv, hg, hh, hc, hm, hs, fun i hi => ?_⟩
    rw [← ht, List.getElem?_take, if_pos hi, Array.getElem?_toList]
/-- a term of an op with a tuple's so many parts -/
def isT (q : Op4) (n : Nat) : Bool := q.b && (q.op == 84) && (q.vs.length == n)
def isX (q : Op4) : Bool := q.b && (q.op == 116)
def KidsPost (q : Op4) (n : Nat) (w : World) (e : Ending) (w' : World) : Prop :=
  Below w.heap.size w w' ∧ ∃ o k, e = .returned (.tuple #[.slice o q.vs.length k, .bool (isT q n)]) ∧ StrsAt o q.vs w'
theorem popen_any (t : ByteArray) (w : World) (hm : t.size ≤ maxLen) (hL : LibOk w) : Calls Tryz.prog 120 #[.string t] w (OneForm (op4 t.data.toList) w) := (open_any t w hm hL).mono fun _ _ h => one_form h
theorem dopen_any (t : ByteArray) (w : World) (hm : t.size ≤ maxLen) : Calls Tryz.prog 124 #[.string t] w (OneForm (op4 t.data.toList) w) := (ropen_any t w hm).mono fun _ _ h => one_form h
theorem four {w : World} {b : Nat} {a0 a1 a2 a3 : Value} {t : TypeId} {f : Nat × Nat} (h : w.heap[b]? = some (.cells #[a0, a1, a2, a3] t f)) :
    w.cell? ⟨b, 0, none⟩ = some a0 ∧ w.cell? ⟨b, 1, none⟩ = some a1 ∧ w.cell? ⟨b, 2, none⟩ = some a2 ∧ w.cell? ⟨b, 3, none⟩ = some a3 := by
  simp [World.cell?, h]
set_option maxRecDepth 100000 in
set_option maxHeartbeats 4000000 in
theorem otuple_any (t : ByteArray) (n : Nat) (w : World) (q : Op4) (hn : n ≤ 100) (HO : Calls Tryz.prog 120 #[.string t] w (OneForm q w)) : Calls Tryz.prog 60 #[.string t, .int .i64 n] w (KidsPost q n w) := by
  have H := Lib.hid HO
  clear HO
  obtain ⟨op, qn, u, vs, b⟩ := q
  go_enter Tryz.func60, Tryz.ntmps60
  go_upto_region 2 with (go_at_call 120; (with_reducible refine Calls.mono H.out ?_); rintro e w1 ⟨hb, o, k, rfl, hs⟩; have B1 := Lib.hid hb; have S1 := Lib.hid hs; clear hb hs)
  have B2 := Lib.hid (B1.out.alloc B1.out.size (.cells #[.int .u8 op, .int .i64 qn, .string u, .slice o vs.length k] 192))
  have S2 := Lib.hid (S1.out.below (below_new' w1 (.cells #[.int .u8 op, .int .i64 qn, .string u, .slice o vs.length k] 192)))
  have CX := heap_alloc_at w1 (.cells #[.int .u8 op, .int .i64 qn, .string u, .slice o vs.length k] 192)
  obtain ⟨x0, x1, x2, x3⟩ := four CX
  clear CX x1
  try simp only at x0 x2 x3 B2 S2 ⊢
  generalize w1.alloc (.cells #[.int .u8 op, .int .i64 qn, .string u, .slice o vs.length k] 192) = w2 at B2 S2 x0 x2 x3 ⊢
  generalize w1.heap.size = xb at x0 x2 x3 ⊢
  cases b with
  | false =>
    go_quiet (fail)
    go_wp2_with fail
    go_ret2
    exact ⟨below_drewN B2.out nq, o, k, rfl, S2.out.below (drewN_same w2 nq).1⟩
  | true =>
    by_cases h84 : op = 84
    · subst h84
      have HV : Hid (isT ⟨84, qn, u, vs, true⟩ n = (vs.length == n)) := rfl
      by_cases hl : vs.length = n
      · have e3 : ((vs.length : Int) == (n : Int)) = true := by simp [hl]
        have HW : Hid ((vs.length == n) = true) := by show _ = _; simp [hl]
        clear hl
        go_quiet (fail)
        go_wp2_with fail
        go_ret2
        exact ⟨below_drewN B2.out nq, o, k, by rw [HV.out, HW.out]; rfl, S2.out.below (drewN_same w2 nq).1⟩
      · have e3 : ((vs.length : Int) == (n : Int)) = false := by simp; omega
        have HW : Hid ((vs.length == n) = false) := by show _ = _; simp [hl]
        clear hl
        go_quiet (fail)
        go_wp2_with fail
        go_ret2
        exact ⟨below_drewN B2.out nq, o, k, by rw [HV.out, HW.out]; rfl, S2.out.below (drewN_same w2 nq).1⟩
    · have e1 : (op == 84) = false := by simpa using h84
      have e2 : ((op : Int) == 84) = false := by simp; omega
      have HW : Hid (isT ⟨op, qn, u, vs, true⟩ n = false) := by show _ = _; unfold isT; rw [show ((⟨op, qn, u, vs, true⟩ : Op4).op == 84) = false from e1]; rfl
      clear h84
      go_quiet (fail)
      go_wp2_with fail
      go_ret2
      exact ⟨below_drewN B2.out nq, o, k, by rw [HW.out]; rfl, S2.out.below (drewN_same w2 nq).1⟩
set_option maxRecDepth 100000 in
set_option maxHeartbeats 4000000 in
theorem dtuple_any (t : ByteArray) (n : Nat) (w : World) (q : Op4) (hn : n ≤ 100) (HO : Calls Tryz.prog 124 #[.string t] w (OneForm q w)) : Calls Tryz.prog 64 #[.string t, .int .i64 n] w (KidsPost q n w) := by
  have H := Lib.hid HO
  clear HO
  obtain ⟨op, qn, u, vs, b⟩ := q
  go_enter Tryz.func64, Tryz.ntmps64
  go_upto_region 2 with (go_at_call 124; (with_reducible refine Calls.mono H.out ?_); rintro e w1 ⟨hb, o, k, rfl, hs⟩; have B1 := Lib.hid hb; have S1 := Lib.hid hs; clear hb hs)
  have B2 := Lib.hid (B1.out.alloc B1.out.size (.cells #[.int .u8 op, .int .i64 qn, .string u, .slice o vs.length k] 192))
  have S2 := Lib.hid (S1.out.below (below_new' w1 (.cells #[.int .u8 op, .int .i64 qn, .string u, .slice o vs.length k] 192)))
  have CX := heap_alloc_at w1 (.cells #[.int .u8 op, .int .i64 qn, .string u, .slice o vs.length k] 192)
  obtain ⟨x0, x1, x2, x3⟩ := four CX
  clear CX x1
  try simp only at x0 x2 x3 B2 S2 ⊢
  generalize w1.alloc (.cells #[.int .u8 op, .int .i64 qn, .string u, .slice o vs.length k] 192) = w2 at B2 S2 x0 x2 x3 ⊢
  generalize w1.heap.size = xb at x0 x2 x3 ⊢
  cases b with
  | false =>
    go_quiet (fail)
    go_wp2_with fail
    go_ret2
    exact ⟨below_drewN B2.out nq, o, k, rfl, S2.out.below (drewN_same w2 nq).1⟩
  | true =>
    by_cases h84 : op = 84
    · subst h84
      have HV : Hid (isT ⟨84, qn, u, vs, true⟩ n = (vs.length == n)) := rfl
      by_cases hl : vs.length = n
      · have e3 : ((vs.length : Int) == (n : Int)) = true := by simp [hl]
        have HW : Hid ((vs.length == n) = true) := by show _ = _; simp [hl]
        clear hl
        go_quiet (fail)
        go_wp2_with fail
        go_ret2
        exact ⟨below_drewN B2.out nq, o, k, by rw [HV.out, HW.out]; rfl, S2.out.below (drewN_same w2 nq).1⟩
      · have e3 : ((vs.length : Int) == (n : Int)) = false := by simp; omega
        have HW : Hid ((vs.length == n) = false) := by show _ = _; simp [hl]
        clear hl
        go_quiet (fail)
        go_wp2_with fail
        go_ret2
        exact ⟨below_drewN B2.out nq, o, k, by rw [HV.out, HW.out]; rfl, S2.out.below (drewN_same w2 nq).1⟩
    · have e1 : (op == 84) = false := by simpa using h84
      have e2 : ((op : Int) == 84) = false := by simp; omega
      have HW : Hid (isT ⟨op, qn, u, vs, true⟩ n = false) := by show _ = _; unfold isT; rw [show ((⟨op, qn, u, vs, true⟩ : Op4).op == 84) = false from e1]; rfl
      clear h84
      go_quiet (fail)
      go_wp2_with fail
      go_ret2
      exact ⟨below_drewN B2.out nq, o, k, by rw [HW.out]; rfl, S2.out.below (drewN_same w2 nq).1⟩
set_option maxRecDepth 100000 in
set_option maxHeartbeats 4000000 in
theorem otext_any (t : ByteArray) (w : World) (q : Op4) (HO : Calls Tryz.prog 120 #[.string t] w (OneForm q w)) : Calls Tryz.prog 61 #[.string t] w fun e w' => e = .returned (.tuple #[.string q.u, .bool (isX q)]) ∧ Below w.heap.size w w' := by
  have H := Lib.hid HO
  clear HO
  obtain ⟨op, qn, u, vs, b⟩ := q
  go_enter Tryz.func61, Tryz.ntmps61
  go_upto_region 2 with (go_at_call 120; (with_reducible refine Calls.mono H.out ?_); rintro e w1 ⟨hb, o, k, rfl, hs⟩; have B1 := Lib.hid hb; have S1 := Lib.hid hs; clear hb hs)
  have B2 := Lib.hid (B1.out.alloc B1.out.size (.cells #[.int .u8 op, .int .i64 qn, .string u, .slice o vs.length k] 192))
  have S2 := Lib.hid (S1.out.below (below_new' w1 (.cells #[.int .u8 op, .int .i64 qn, .string u, .slice o vs.length k] 192)))
  have CX := heap_alloc_at w1 (.cells #[.int .u8 op, .int .i64 qn, .string u, .slice o vs.length k] 192)
  obtain ⟨x0, x1, x2, x3⟩ := four CX
  clear CX x1
  try simp only at x0 x2 x3 B2 S2 ⊢
  generalize w1.alloc (.cells #[.int .u8 op, .int .i64 qn, .string u, .slice o vs.length k] 192) = w2 at B2 S2 x0 x2 x3 ⊢
  generalize w1.heap.size = xb at x0 x2 x3 ⊢
  cases b with
  | false =>
    go_quiet (fail)
    go_wp2_with fail
    go_ret2
    exact ⟨rfl, below_drewN B2.out nq⟩
  | true =>
    by_cases h84 : op = 116
    · subst h84
      go_quiet (fail)
      go_wp2_with fail
      go_ret2
      exact ⟨rfl, below_drewN B2.out nq⟩
    · have e1 : (op == 116) = false := by simpa using h84
      have e2 : ((op : Int) == 116) = false := by simp; omega
      have HW : Hid (isX ⟨op, qn, u, vs, true⟩ = false) := e1
      clear h84
      go_quiet (fail)
      go_wp2_with fail
      go_ret2
      exact ⟨by rw [HW.out]; rfl, below_drewN B2.out nq⟩
set_option maxRecDepth 100000 in
set_option maxHeartbeats 4000000 in
theorem dtext_any (t : ByteArray) (w : World) (q : Op4) (HO : Calls Tryz.prog 124 #[.string t] w (OneForm q w)) : Calls Tryz.prog 65 #[.string t] w fun e w' => e = .returned (.tuple #[.string q.u, .bool (isX q)]) ∧ Below w.heap.size w w' := by
  have H := Lib.hid HO
  clear HO
  obtain ⟨op, qn, u, vs, b⟩ := q
  go_enter Tryz.func65, Tryz.ntmps65
  go_upto_region 2 with (go_at_call 124; (with_reducible refine Calls.mono H.out ?_); rintro e w1 ⟨hb, o, k, rfl, hs⟩; have B1 := Lib.hid hb; have S1 := Lib.hid hs; clear hb hs)
  have B2 := Lib.hid (B1.out.alloc B1.out.size (.cells #[.int .u8 op, .int .i64 qn, .string u, .slice o vs.length k] 192))
  have S2 := Lib.hid (S1.out.below (below_new' w1 (.cells #[.int .u8 op, .int .i64 qn, .string u, .slice o vs.length k] 192)))
  have CX := heap_alloc_at w1 (.cells #[.int .u8 op, .int .i64 qn, .string u, .slice o vs.length k] 192)
  obtain ⟨x0, x1, x2, x3⟩ := four CX
  clear CX x1
  try simp only at x0 x2 x3 B2 S2 ⊢
  generalize w1.alloc (.cells #[.int .u8 op, .int .i64 qn, .string u, .slice o vs.length k] 192) = w2 at B2 S2 x0 x2 x3 ⊢
  generalize w1.heap.size = xb at x0 x2 x3 ⊢
  cases b with
  | false =>
    go_quiet (fail)
    go_wp2_with fail
    go_ret2
    exact ⟨rfl, below_drewN B2.out nq⟩
  | true =>
    by_cases h84 : op = 116
    · subst h84
      go_quiet (fail)
      go_wp2_with fail
      go_ret2
      exact ⟨rfl, below_drewN B2.out nq⟩
    · have e1 : (op == 116) = false := by simpa using h84
      have e2 : ((op : Int) == 116) = false := by simp; omega
      have HW : Hid (isX ⟨op, qn, u, vs, true⟩ = false) := e1
      clear h84
      go_quiet (fail)
      go_wp2_with fail
      go_ret2
      exact ⟨by rw [HW.out]; rfl, below_drewN B2.out nq⟩
end Go.Proofs.YtbdimlppnhcicaaGreatDoor
