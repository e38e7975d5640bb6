/- route: what is compared -/
import Derived.Lib.ParseIntB
import Derived.Lib.Bytealg
import Derived.Lib.ItoaNum
import Derived.Lib.ParseIntBCases
import Derived.Shelf.Strings.Builder1
import Derived.Shelf.Small.Bits
import Derived.Shelf.Small.Strs
import Derived.Shelf.Small.Wraps
import Derived.Shelf.Strings.BuilderF
import Derived.Shelf.Strings.BuilderK
import Derived.Shelf.Strconv.Itoa0
import Derived.Shelf.Strconv.Itoa1
import Derived.Shelf.LaysM
import Derived.Shelf.Strconv.Itoa2
import Derived.Shelf.Strconv.Itoa3
import Derived.Shelf.Strconv.Itoa4
import Derived.Shelf.Strconv.ParseIntEmpty
import Derived.Shelf.Strconv.Clone
import Derived.Shelf.Strconv.SyntaxError
import Derived.Shelf.LaysC
import Derived.Shelf.Strconv.ToError
import Derived.Shelf.Strconv.Lower
import Derived.Shelf.Strconv.ParseUint10
import Derived.Shelf.Strconv.ParseUint10Empty
import Derived.Shelf.Strconv.ParseUint10Any
import Derived.Shelf.Strconv.ParseInt10
import Derived.Shelf.Strconv.RangeError
import Derived.Shelf.Strconv.ToErrorRange
import Derived.Shelf.Strconv.ParseUintEmpty
import Derived.Shelf.Strconv.ParseUint10b64
import Derived.Shelf.Strconv.ParseUint10b32
import Derived.Shelf.Strconv.ParseUint10b16
import Derived.Shelf.Strconv.ParseUint10b8
import Derived.Shelf.Strconv.ParseUint10At
import Derived.Shelf.Strconv.ParseInt10At64
import Derived.Shelf.Strconv.ParseInt10At32
import Derived.Shelf.Strconv.ParseInt10At16
import Derived.Shelf.Strconv.ParseInt10At8
import Derived.Shelf.Strconv.ParseInt10All
import Derived.Shelf.Strconv.ParseIntPublic10
import Derived.Shelf.Strconv.ErrVarParseInt
import Derived.Shelf.Strings.Search1
import Derived.Shelf.Bits.Mul64
import Derived.Shelf.Strings.BuilderCap
import Derived.Ground.Names2Prog
import Derived.Shelf.Slices.Clone
import Derived.Shelf.Slices.SearchI
import Derived.Ground.SlgnProg
import Derived.Shelf.SlicesE.Clone
import Derived.WalkKit
import Derived.WalkSpells
import Derived.WalkLawsBesides
import Derived.Handy
import Derived.Lib.Hide
import Derived.Deep.QuietTactic
import Derived.BigQuiet
import Derived.Deep.RegionHeld3
import Derived.Lib.Strings
import Derived.Lib.IndexBytes
import Derived.BigRegion
import Derived.Deep.RegionLaw
import Derived.Deep.AppendLies
import Derived.Deep.LoopGhost
import Derived.Deep.Onto
import Derived.Deep.WholeRow
import Derived.Deep.CutRange
import Derived.Laws.CopyOwn
import Derived.Lib.ItoaLen
import Derived.Lib.AppendIntMem
import Derived.Deep.CutBlock
import Derived.Deep.MidRow
import Derived.Deep.RegionHeld
import Derived.Outline
import Derived.Laws.Tables
import Derived.Laws.MakeOwn
import Derived.Laws.OwnMore
import Derived.WalkMore
import Derived.MapKept
import Derived.Carry
import Derived.Test.YtbdimlppnhcicaaGreatDoorRows
import Derived.Test.YtbdimlppnhcicaaGreatDoorProg
import Derived.Test.YtbdimlppnhcicaaGreatDoorNu
import Derived.Test.YtbdimlppnhcicaaGreatDoorTa
import Derived.Test.YtbdimlppnhcicaaGreatDoorRg
import Derived.Test.YtbdimlppnhcicaaGreatDoorBa
import Derived.Test.YtbdimlppnhcicaaGreatDoorVa
import Derived.Test.YtbdimlppnhcicaaGreatDoorWg
import Derived.Test.YtbdimlppnhcicaaGreatDoorOnA
import Derived.Test.YtbdimlppnhcicaaGreatDoorOe
import Derived.Test.YtbdimlppnhcicaaGreatDoorRo1
import Derived.Test.YtbdimlppnhcicaaGreatDoorOf
import Derived.Test.YtbdimlppnhcicaaGreatDoorOh
import Derived.Test.YtbdimlppnhcicaaGreatDoorOj
namespace Go.Proofs.YtbdimlppnhcicaaGreatDoor
set_option linter.unusedVariables false
open Go.RowKit
/-! route: what is compared -/
def cmpI (a b : Int) : Int := if a < b then -1 else if b < a then 1 else 0
def cmpS (a b : ByteArray) : Int := if Op.bytesLess a.toList b.toList = true then -1 else if a = b then 0 else 1
def orI (a b c : Int) : Int := if a ≠ 0 then a else if b ≠ 0 then b else c
theorem nan64 (a : Int) (w : World) : Calls Tryz.prog 172 #[.int .i64 a] w fun e w' => e = .returned (.bool false) ∧ w' = w := by
  go_enter Tryz.func172, Tryz.ntmps172
  go_wp2_with fail
  go_ret
  exact ⟨by simp, rfl⟩
theorem nanI (a : Int) (w : World) : Calls Tryz.prog 173 #[.int .i64 a] w fun e w' => e = .returned (.bool false) ∧ w' = w := by
  go_enter Tryz.func173, Tryz.ntmps173
  go_wp2_with fail
  go_ret
  exact ⟨by simp, rfl⟩
theorem nanS (a : ByteArray) (w : World) : Calls Tryz.prog 174 #[.string a] w fun e w' => e = .returned (.bool false) ∧ w' = w := by
  go_enter Tryz.func174, Tryz.ntmps174
  go_wp2_with fail
  go_ret
  exact ⟨by simp, rfl⟩
theorem cmp64_any (a b : Int) (w : World) : Calls Tryz.prog 135 #[.int .i64 a, .int .i64 b] w fun e w' => e = .returned (.int .i64 (cmpI a b)) ∧ w' = w := by
  by_cases h1 : a < b
  · have hc : cmpI a b = -1 := by unfold cmpI; rw [if_pos h1]
    go_enter Tryz.func135, Tryz.ntmps135
    go_wp2_with (go_at_call 172; (with_reducible refine Calls.mono (nan64 _ _) ?_); rintro e w1 ⟨rfl, rfl⟩)
    go_ret
    exact ⟨by rw [hc]; rfl, rfl⟩
  · by_cases h2 : b < a
    · have hc : cmpI a b = 1 := by unfold cmpI; rw [if_neg h1, if_pos h2]
      go_enter Tryz.func135, Tryz.ntmps135
      go_wp2_with (go_at_call 172; (with_reducible refine Calls.mono (nan64 _ _) ?_); rintro e w1 ⟨rfl, rfl⟩)
      go_ret
      exact ⟨by rw [hc]; rfl, rfl⟩
    · have hc : cmpI a b = 0 := by unfold cmpI; rw [if_neg h1, if_neg h2]
      go_enter Tryz.func135, Tryz.ntmps135
      go_wp2_with (go_at_call 172; (with_reducible refine Calls.mono (nan64 _ _) ?_); rintro e w1 ⟨rfl, rfl⟩)
      go_ret
      exact ⟨by rw [hc]; rfl, rfl⟩
theorem cmpI_any (a b : Int) (w : World) : Calls Tryz.prog 136 #[.int .i64 a, .int .i64 b] w fun e w' => e = .returned (.int .i64 (cmpI a b)) ∧ w' = w := by
  by_cases h1 : a < b
  · have hc : cmpI a b = -1 := by unfold cmpI; rw [if_pos h1]
    go_enter Tryz.func136, Tryz.ntmps136
    go_wp2_with (go_at_call 173; (with_reducible refine Calls.mono (nanI _ _) ?_); rintro e w1 ⟨rfl, rfl⟩)
    go_ret
    exact ⟨by rw [hc]; rfl, rfl⟩
  · by_cases h2 : b < a
    · have hc : cmpI a b = 1 := by unfold cmpI; rw [if_neg h1, if_pos h2]
      go_enter Tryz.func136, Tryz.ntmps136
      go_wp2_with (go_at_call 173; (with_reducible refine Calls.mono (nanI _ _) ?_); rintro e w1 ⟨rfl, rfl⟩)
      go_ret
      exact ⟨by rw [hc]; rfl, rfl⟩
    · have hc : cmpI a b = 0 := by unfold cmpI; rw [if_neg h1, if_neg h2]
      go_enter Tryz.func136, Tryz.ntmps136
      go_wp2_with (go_at_call 173; (with_reducible refine Calls.mono (nanI _ _) ?_); rintro e w1 ⟨rfl, rfl⟩)
      go_ret
      exact ⟨by rw [hc]; rfl, rfl⟩
theorem cmpS_any (a b : ByteArray) (w : World) : Calls Tryz.prog 137 #[.string a, .string b] w fun e w' => e = .returned (.int .i64 (cmpS a b)) ∧ w' = w := by
  cases h1 : Op.bytesLess a.toList b.toList with
  | true =>
    have hc : cmpS a b = -1 := by unfold cmpS; rw [if_pos h1]
    go_enter Tryz.func137, Tryz.ntmps137
    go_wp2_with (go_at_call 174; (with_reducible refine Calls.mono (nanS _ _) ?_); rintro e w1 ⟨rfl, rfl⟩)
    go_ret
    exact ⟨by rw [hc]; rfl, rfl⟩
  | false =>
    by_cases h2 : a = b
    · subst h2
      have hc : cmpS a a = 0 := by unfold cmpS; rw [if_neg (by rw [h1]; decide), if_pos rfl]
      go_enter Tryz.func137, Tryz.ntmps137
      go_wp2_with (go_at_call 174; (with_reducible refine Calls.mono (nanS _ _) ?_); rintro e w1 ⟨rfl, rfl⟩)
      go_ret
      exact ⟨by rw [hc]; rfl, rfl⟩
    · have hc : cmpS a b = 1 := by unfold cmpS; rw [if_neg (by rw [h1]; decide), if_neg h2]
      have q1 := toList_ne h2
      go_enter Tryz.func137, Tryz.ntmps137
      go_wp2_with (go_at_call 174; (with_reducible refine Calls.mono (nanS _ _) ?_); rintro e w1 ⟨rfl, rfl⟩)
      go_ret
      exact ⟨by rw [hc]; rfl, rfl⟩
theorem or3_any (g : Nat) (a b c : Int) (w : World) (h0 : w.cell? ⟨g, 0, none⟩ = some (.int .i64 a)) (h1 : w.cell? ⟨g, 1, none⟩ = some (.int .i64 b)) (h2 : w.cell? ⟨g, 2, none⟩ = some (.int .i64 c)) : Calls Tryz.prog 134 #[.slice (some ⟨g, 0, none⟩) 3 3] w fun e w' => e = .returned (.int .i64 (orI a b c)) ∧ w' = w := by
  by_cases ha : a = 0
  · subst ha
    by_cases hb : b = 0
    · subst hb
      by_cases hc : c = 0
      · subst hc
        go_enter Tryz.func134, Tryz.ntmps134
        go_wp2_with (first | (refine wp_loop_rounds 4 ?_) | (rw [rounds_succ]))
        go_ret
        exact ⟨rfl, rfl⟩
      · have e1 : (c != 0) = true := by simpa using hc
        have ho : orI 0 0 c = c := by simp [orI]
        go_enter Tryz.func134, Tryz.ntmps134
        go_wp2_with (first | (refine wp_loop_rounds 4 ?_) | (rw [rounds_succ]))
        go_ret
        exact ⟨by rw [ho]; rfl, rfl⟩
    · have e1 : (b != 0) = true := by simpa using hb
      have ho : orI 0 b c = b := by simp [orI, hb]
      go_enter Tryz.func134, Tryz.ntmps134
      go_wp2_with (first | (refine wp_loop_rounds 4 ?_) | (rw [rounds_succ]))
      go_ret
      exact ⟨by rw [ho]; rfl, rfl⟩
  · have e1 : (a != 0) = true := by simpa using ha
    have ho : orI a b c = a := by simp [orI, ha]
    go_enter Tryz.func134, Tryz.ntmps134
    go_wp2_with (first | (refine wp_loop_rounds 4 ?_) | (rw [rounds_succ]))
    go_ret
    exact ⟨by rw [ho]; rfl, rfl⟩
end Go.Proofs.YtbdimlppnhcicaaGreatDoor
/- route: which need is better -/
namespace Go.Proofs.YtbdimlppnhcicaaGreatDoor
set_option linter.unusedVariables false
open Go.RowKit Rte
/-! route: what is to reach a node, and which is better -/
/-- the need that lies in a block: amount, expiry, the hops from there on -/
def EndAt (W : World) : Nat → Int → Int → List Hp → Prop
  | b, a, x, [] => W.heap[b]? = some (.cells #[.int .i64 a, .int .i64 x, .int .i64 0, .string ⟨#[]⟩, .string ⟨#[]⟩, .int .i64 0, .int .i64 0, .pointer none] 138 (0, 0))
  | b, a, x, h :: t => ∃ b', W.heap[b]? = some (.cells #[.int .i64 a, .int .i64 x, .int .i64 ((t.length + 1 : Nat) : Int), .string h.chan, .string h.node, .int .i64 h.amt, .int .i64 h.exp, .pointer (some ⟨b', 0, none⟩)] 138 (0, 0)) ∧ EndAt W b' h.amt h.exp t
/-- what lies in cells stays -/
def KeepC (W w' : World) : Prop := ∀ (k : Nat) (cs : Array Value) (t : TypeId) (f : Nat × Nat), W.heap[k]? = some (Obj.cells cs t f) → w'.heap[k]? = some (Obj.cells cs t f)
theorem keepC_below {W w' : World} (h : Below W.heap.size W w') : KeepC W w' := fun k cs t f hk => (h.block k (lt_of_heap hk)).trans hk
theorem KeepC.trans {a b c : World} (h : KeepC a b) (h' : KeepC b c) : KeepC a c := fun k cs t f hk => h' k cs t f (h k cs t f hk)
theorem EndAt.keep {W w' : World} (h : KeepC W w') : ∀ {b : Nat} {a x : Int} {l : List Hp}, EndAt W b a x l → EndAt w' b a x l
  | b, a, x, [], hh => h _ _ _ _ hh
  | b, a, x, c :: t, ⟨b', h1, h2⟩ => ⟨b', h _ _ _ _ h1, EndAt.keep h h2⟩
def cmpH : List Hp → List Hp → Int
  | h :: t, g :: u => if cmpS h.chan g.chan ≠ 0 then cmpS h.chan g.chan else cmpH t u
  | _, _ => 0
/-- which one is better -/
def cmpE (x y : En) : Int := if orI (cmpI x.amt y.amt) (cmpI x.exp y.exp) (cmpI x.hops.length y.hops.length) ≠ 0 then orI (cmpI x.amt y.amt) (cmpI x.exp y.exp) (cmpI x.hops.length y.hops.length) else cmpH x.hops y.hops
theorem end_cells {W : World} {b : Nat} {a x : Int} {l : List Hp} (h : EndAt W b a x l) : ∃ c n p q v, W.heap[b]? = some (.cells #[.int .i64 a, .int .i64 x, .int .i64 (l.length : Int), .string c, .string n, .int .i64 p, .int .i64 q, v] 138 (0, 0)) := by
  cases l with
  | nil => exact ⟨_, _, _, _, _, h⟩
  | cons g t => obtain ⟨b', h1, _⟩ := h; exact ⟨_, _, _, _, _, h1⟩
theorem EndAt.below {W w' : World} {b : Nat} {a x : Int} {l : List Hp} (h : EndAt W b a x l) (hb : Below W.heap.size W w') : EndAt w' b a x l := h.keep (keepC_below hb)
/-- how many hops there are -/
def cntE (w : World) (v : Value) : Nat := match v with
  | .pointer (some ad) => match w.cell? ⟨ad.block, 2, none⟩ with
    | some (.int _ n) => n.toNat
    | _ => 0
  | _ => 0
theorem cntE_at {W : World} {b : Nat} {a x : Int} {l : List Hp} (h : EndAt W b a x l) : cntE W (.pointer (some ⟨b, 0, none⟩)) = l.length := by
  obtain ⟨c, n, p, q, v, k⟩ := end_cells h
  have : W.cell? ⟨b, 2, none⟩ = some (.int .i64 (l.length : Int)) := by rw [cell_of_row _ _ _ _ _ _ k]; rfl
  unfold cntE
  dsimp only
  rw [this]
  rfl
theorem bdN {B : Nat} {a w : World} (h : Below B a w) (n : Nat) : Below B a (w.drewN n) := ⟨h.os, h.tape, h.output, h.size, h.block⟩
set_option maxRecDepth 100000 in
set_option maxHeartbeats 8000000 in
theorem cmp_any (b1 b2 : Nat) (x y : En) (w : World) (h1 : EndAt w b1 x.amt x.exp x.hops) (h2 : EndAt w b2 y.amt y.exp y.hops) : Calls Tryz.prog 79 #[.pointer (some ⟨b1, 0, none⟩), .pointer (some ⟨b2, 0, none⟩)] w fun e w' => e = .returned (.int .i64 (cmpE x y)) ∧ Below w.heap.size w w' := by
  obtain ⟨c1, n1, p1, q1, v1, k1⟩ := end_cells h1
  obtain ⟨c2, n2, p2, q2, v2, k2⟩ := end_cells h2
  have x0 : w.cell? ⟨b1, 0, none⟩ = some (.int .i64 x.amt) := by rw [cell_of_row _ _ _ _ _ _ k1]; rfl
  have x1 : w.cell? ⟨b1, 1, none⟩ = some (.int .i64 x.exp) := by rw [cell_of_row _ _ _ _ _ _ k1]; rfl
  have x2 : w.cell? ⟨b1, 2, none⟩ = some (.int .i64 (x.hops.length : Int)) := by rw [cell_of_row _ _ _ _ _ _ k1]; rfl
  have y0 : w.cell? ⟨b2, 0, none⟩ = some (.int .i64 y.amt) := by rw [cell_of_row _ _ _ _ _ _ k2]; rfl
  have y1 : w.cell? ⟨b2, 1, none⟩ = some (.int .i64 y.exp) := by rw [cell_of_row _ _ _ _ _ _ k2]; rfl
  have y2 : w.cell? ⟨b2, 2, none⟩ = some (.int .i64 (y.hops.length : Int)) := by rw [cell_of_row _ _ _ _ _ _ k2]; rfl
  have H1 := Lib.hid h1
  have H2 := Lib.hid h2
  obtain ⟨xa, xx, xh⟩ := x
  obtain ⟨ya, yx, yh⟩ := y
  dsimp only at x0 x1 x2 y0 y1 y2 H1 H2
  clear k1 k2 h1 h2
  obtain ⟨xn, hxn⟩ : ∃ n : Int, (xh.length : Int) = n := ⟨_, rfl⟩
  obtain ⟨yn, hyn⟩ : ∃ n : Int, (yh.length : Int) = n := ⟨_, rfl⟩
  rw [hxn] at x2
  rw [hyn] at y2
  have HXN := Lib.hid hxn
  have HYN := Lib.hid hyn
  clear hxn hyn
  have HOR : Hid (Calls Tryz.prog 134 #[.slice (some ⟨w.heap.size, 0, none⟩) 3 3] (w.alloc (.cells #[.int .i64 (cmpI xa ya), .int .i64 (cmpI xx yx), .int .i64 (cmpI xn yn)] 3)).drew fun e w' => e = .returned (.int .i64 (orI (cmpI xa ya) (cmpI xx yx) (cmpI xn yn))) ∧ w' = (w.alloc (.cells #[.int .i64 (cmpI xa ya), .int .i64 (cmpI xx yx), .int .i64 (cmpI xn yn)] 3)).drew) := by
    have hk : (w.alloc (.cells #[.int .i64 (cmpI xa ya), .int .i64 (cmpI xx yx), .int .i64 (cmpI xn yn)] 3)).drew.heap[w.heap.size]? = some (.cells #[.int .i64 (cmpI xa ya), .int .i64 (cmpI xx yx), .int .i64 (cmpI xn yn)] 3 (0, 0)) := heap_alloc_at w _
    exact or3_any w.heap.size _ _ _ _ (by rw [cell_of_row _ _ _ _ _ _ hk]; rfl) (by rw [cell_of_row _ _ _ _ _ _ hk]; rfl) (by rw [cell_of_row _ _ _ _ _ _ hk]; rfl)
  have B3 : Hid (Below w.heap.size w (w.alloc (.cells #[.int .i64 (cmpI xa ya), .int .i64 (cmpI xx yx), .int .i64 (cmpI xn yn)] 3)).drew) := (below_new' w _).drew
  obtain ⟨R, hR⟩ : ∃ R, orI (cmpI xa ya) (cmpI xx yx) (cmpI xn yn) = R := ⟨_, rfl⟩
  rw [hR] at HOR
  have HRR := Lib.hid hR
  clear hR
  go_enter Tryz.func79, Tryz.ntmps79
  go_wp2_with fail
  go_region_held3 (fun w' => w'.cell? ⟨b1, 0, none⟩ = some (.int .i64 xa) ∧ w'.cell? ⟨b1, 1, none⟩ = some (.int .i64 xx) ∧ w'.cell? ⟨b1, 2, none⟩ = some (.int .i64 xn) ∧ w'.cell? ⟨b2, 0, none⟩ = some (.int .i64 ya) ∧ w'.cell? ⟨b2, 1, none⟩ = some (.int .i64 yx) ∧ w'.cell? ⟨b2, 2, none⟩ = some (.int .i64 yn))
    (go_keep)
    ((first
      | (go_at_call 135; (with_reducible refine Calls.mono (cmp64_any xa ya _) ?_); rintro e w6 ⟨rfl, rfl⟩)
      | (go_at_call 136; (with_reducible refine Calls.mono (cmpI_any xx yx _) ?_); rintro e w6 ⟨rfl, rfl⟩)
      | (go_at_call 136; (with_reducible refine Calls.mono (cmpI_any xn yn _) ?_); rintro e w6 ⟨rfl, rfl⟩)
      | (go_at_call 134; (with_reducible refine Calls.mono HOR.out ?_); rintro e w7 ⟨rfl, rfl⟩)))
  generalize (w.alloc (.cells #[.int .i64 (cmpI xa ya), .int .i64 (cmpI xx yx), .int .i64 (cmpI xn yn)] 3)).drew = w3 at B3 ⊢
  by_cases h0 : R = 0
  · subst h0
    have HE : Hid (cmpE ⟨xa, xx, xh⟩ ⟨ya, yx, yh⟩ = cmpH xh yh) := by
      show _ = _
      have h := HRR.out
      rw [← HXN.out, ← HYN.out] at h
      unfold cmpE
      rw [if_neg (by dsimp only; rw [h]; simp)]
    have hln : xh.length = yh.length := by
      have h := HRR.out
      unfold orI at h
      have hc : ∀ a b : Int, cmpI a b = 0 → a = b := fun a b h => by
        unfold cmpI at h
        split at h
        · cases h
        · split at h
          · cases h
          · omega
      split at h
      · rename_i h1; exact absurd h h1
      · split at h
        · rename_i h1; exact absurd h h1
        · have := hc _ _ h
          rw [← HXN.out, ← HYN.out] at this
          omega
    have HLN := Lib.hid hln
    go_wp2_with fail
    go_loopw [0, 1] (fun pv qv wr => ∃ (c1 c2 : Nat) (a1 e1 a2 e2 : Int) (t1 t2 : List Hp), pv = .pointer (some ⟨c1, 0, none⟩) ∧ qv = .pointer (some ⟨c2, 0, none⟩) ∧ Hid (EndAt wr c1 a1 e1 t1) ∧ Hid (EndAt wr c2 a2 e2 t2) ∧ Hid (t1.length = t2.length) ∧ Hid (cmpH t1 t2 = cmpH xh yh) ∧ Hid (Below w.heap.size w wr)) (fun pv _ wr => cntE wr pv)
    case atStart => exact ⟨b1, b2, xa, xx, ya, yx, xh, yh, rfl, rfl, H1.out.below B3.out, H2.out.below B3.out, HLN.out, rfl, B3.out⟩
    case round =>
      obtain ⟨c1, c2, a1, e1, a2, e2, t1, t2, rfl, rfl, hE1, hE2, hLn, hC, hB⟩ := hrel
      cases t1 with
      | nil =>
        obtain rfl : t2 = [] := List.eq_nil_of_length_eq_zero (by have := hLn.out; simpa using this.symm)
        have p7 : wr.cell? ⟨c1, 7, none⟩ = some (.pointer none) := by rw [cell_of_row _ _ _ _ _ _ hE1.out]; rfl
        have hC0 : Hid (cmpH xh yh = 0) := hC.out.symm
        go_wp2_with fail
        go_ret
        exact ⟨by rw [HE.out, hC0.out]; rfl, hB.out⟩
      | cons h t =>
        cases t2 with
        | nil => have := hLn.out; cases this
        | cons g u =>
          obtain ⟨d1, k1, n1⟩ := hE1.out
          obtain ⟨d2, k2, n2⟩ := hE2.out
          have p2 : wr.cell? ⟨c1, 2, none⟩ = some (.int .i64 ((t.length + 1 : Nat) : Int)) := by rw [cell_of_row _ _ _ _ _ _ k1]; rfl
          have p3 : wr.cell? ⟨c1, 3, none⟩ = some (.string h.chan) := by rw [cell_of_row _ _ _ _ _ _ k1]; rfl
          have p7 : wr.cell? ⟨c1, 7, none⟩ = some (.pointer (some ⟨d1, 0, none⟩)) := by rw [cell_of_row _ _ _ _ _ _ k1]; rfl
          have q3 : wr.cell? ⟨c2, 3, none⟩ = some (.string g.chan) := by rw [cell_of_row _ _ _ _ _ _ k2]; rfl
          have q7 : wr.cell? ⟨c2, 7, none⟩ = some (.pointer (some ⟨d2, 0, none⟩)) := by rw [cell_of_row _ _ _ _ _ _ k2]; rfl
          have HP2 := Lib.hid p2
          have HN1 := Lib.hid n1; have HN2 := Lib.hid n2
          obtain ⟨r, hr⟩ : ∃ r, cmpS h.chan g.chan = r := ⟨_, rfl⟩
          have HST : Hid (cmpH (h :: t) (g :: u) = if r ≠ 0 then r else cmpH t u) := by rw [← hr]; rfl
          have HCS := Lib.hid (fun W => cmpS_any h.chan g.chan W)
          rw [hr] at HCS
          clear k1 k2 n1 n2 hr p2
          by_cases hr0 : r = 0
          · subst hr0
            go_wp2_with fail
            go_quiet ((go_at_call 137; exact Calls.quiet_of_same (HCS.out _)))
            go_wp2_with fail
            go_quiet (fail)
            go_wp2_with fail
            go_roundw
            case rel => exact ⟨d1, d2, h.amt, h.exp, g.amt, g.exp, t, u, rfl, rfl, HN1.out.below (bdN (bdN (Below.refl _ _) _) _), HN2.out.below (bdN (bdN (Below.refl _ _) _) _), Nat.succ.inj hLn.out, by rw [← hC.out, HST.out]; rfl, bdN (bdN hB.out _) _⟩
            case measure => rw [cntE_at (HN1.out.below (bdN (bdN (Below.refl _ _) _) _)), cntE_at hE1.out]; simp
          · have e1 : (r != 0) = true := by simpa using hr0
            go_wp2_with fail
            go_quiet ((go_at_call 137; exact Calls.quiet_of_same (HCS.out _)))
            go_wp2_with fail
            go_ret
            exact ⟨by rw [HE.out, ← hC.out, HST.out, if_pos hr0]; rfl, bdN hB.out _⟩
  · have e1 : (R != 0) = true := by simpa using h0
    have HE : Hid (cmpE ⟨xa, xx, xh⟩ ⟨ya, yx, yh⟩ = R) := by
      show _ = _
      have h := HRR.out
      rw [← HXN.out, ← HYN.out] at h
      unfold cmpE
      dsimp only
      rw [h, if_pos h0]
    go_wp2_with fail
    go_ret
    exact ⟨by rw [HE.out]; rfl, B3.out⟩
end Go.Proofs.YtbdimlppnhcicaaGreatDoor
/- route: the maps -/
namespace Go.Proofs.YtbdimlppnhcicaaGreatDoor
set_option linter.unusedVariables false
open Go.RowKit Rte
/-! route: which need is better, and the maps -/
theorem enc_less : ∀ (a b : List UInt8) (s t : List Int), lexB (a.map (fun c => (c.toNat : Int) + 1) ++ ([0] ++ s)) (b.map (fun c => (c.toNat : Int) + 1) ++ ([0] ++ t)) = if Op.bytesLess a b = true then true else if a = b then lexB s t else false
  | [], [], s, t => by simp [lexB, Op.bytesLess]
  | [], y :: b, s, t => by
    have : (0 : Int) < (y.toNat : Int) + 1 := by omega
    simp [lexB, Op.bytesLess, this]
  | x :: a, [], s, t => by
    have h1 : ¬ ((x.toNat : Int) + 1 < 0) := by omega
    have h2 : ¬ ((x.toNat : Int) + 1 = 0) := by omega
    simp [lexB, Op.bytesLess, h1, h2]
  | x :: a, y :: b, s, t => by
    have ih := enc_less a b s t
    show (decide ((x.toNat : Int) + 1 < (y.toNat : Int) + 1) || (decide ((x.toNat : Int) + 1 = (y.toNat : Int) + 1) && lexB (a.map (fun c => (c.toNat : Int) + 1) ++ ([0] ++ s)) (b.map (fun c => (c.toNat : Int) + 1) ++ ([0] ++ t)))) = _
    rw [ih]
    by_cases h1 : x < y
    · have h1' : (x.toNat : Int) + 1 < (y.toNat : Int) + 1 := by have := UInt8.lt_iff_toNat_lt.1 h1; omega
      simp [Op.bytesLess, h1, h1']
    · have h1' : ¬ ((x.toNat : Int) + 1 < (y.toNat : Int) + 1) := by intro h; exact h1 (UInt8.lt_iff_toNat_lt.2 (by omega))
      by_cases h2 : x = y
      · subst h2
        simp [Op.bytesLess]
      · have h2' : ¬ ((x.toNat : Int) + 1 = (y.toNat : Int) + 1) := by intro h; exact h2 (UInt8.toNat_inj.1 (by omega))
        simp [Op.bytesLess, h1, h1', h2, h2']
theorem cmpS_enc (a b : ByteArray) (s t : List Int) : lexB (encS a ++ s) (encS b ++ t) = decide (cmpS a b < 0 ∨ (cmpS a b = 0 ∧ lexB s t = true)) := by
  unfold encS
  rw [List.append_assoc, List.append_assoc, enc_less]
  unfold cmpS
  rw [Lib.toList_data, Lib.toList_data]
  by_cases h1 : Op.bytesLess a.data.toList b.data.toList = true
  · simp [h1]
  · by_cases h2 : a = b
    · subst h2
      simp [h1]
    · have h2' : ¬ a.data.toList = b.data.toList := fun h => h2 (by cases a; cases b; simpa using h)
      simp [h1, h2, h2']
theorem cmpH_tail : ∀ (x y : List Hp), x.length = y.length → lexB (tailK x) (tailK y) = decide (cmpH x y < 0)
  | [], [], _ => rfl
  | [], _ :: _, h => by cases h
  | _ :: _, [], h => by cases h
  | g :: x, h :: y, hl => by
    have ih := cmpH_tail x y (Nat.succ.inj hl)
    unfold tailK
    rw [List.flatMap_cons, List.flatMap_cons, cmpS_enc]
    unfold tailK at ih
    rw [ih]
    have hc : cmpH (g :: x) (h :: y) = if cmpS g.chan h.chan ≠ 0 then cmpS g.chan h.chan else cmpH x y := rfl
    rw [hc]
    by_cases h0 : cmpS g.chan h.chan = 0
    · simp [h0]
    · simp [h0]
theorem cmpI_lt (a b : Int) : cmpI a b < 0 ↔ a < b := by
  unfold cmpI
  split
  · simp_all
  · split <;> simp_all
theorem cmpI_eq (a b : Int) : cmpI a b = 0 ↔ a = b := by
  unfold cmpI
  split
  · constructor
    · intro h; cases h
    · intro h; omega
  · split
    · constructor
      · intro h; cases h
      · intro h; omega
    · constructor
      · intro _; omega
      · intro _; rfl
theorem cmpE_lt (x y : En) : decide (cmpE x y < 0) = betB x y := by
  have key := key_lt x y
  unfold betB
  have : decide (cmpE x y < 0) = true ↔ lexB (keyE x) (keyE y) = true := by
    rw [key, decide_eq_true_iff]
    have i1 := cmpI_eq x.amt y.amt
    have i2 := cmpI_eq x.exp y.exp
    have i3 := cmpI_eq (x.hops.length : Int) y.hops.length
    have l1 := cmpI_lt x.amt y.amt
    have l2 := cmpI_lt x.exp y.exp
    have l3 := cmpI_lt (x.hops.length : Int) y.hops.length
    have ht := cmpH_tail x.hops y.hops
    unfold cmpE orI
    generalize cmpI x.amt y.amt = c1 at i1 l1 ⊢
    generalize cmpI x.exp y.exp = c2 at i2 l2 ⊢
    generalize cmpI (x.hops.length : Int) y.hops.length = c3 at i3 l3 ⊢
    by_cases h1 : c1 = 0
    · by_cases h2 : c2 = 0
      · by_cases h3 : c3 = 0
        · have e1 := i1.1 h1
          have e2 := i2.1 h2
          have e3 : x.hops.length = y.hops.length := by have := i3.1 h3; omega
          rw [if_neg (by simp [h1, h2, h3]), ht e3, decide_eq_true_iff]
          constructor
          · intro h; exact .inr ⟨e1, .inr ⟨e2, .inr ⟨e3, h⟩⟩⟩
          · rintro (h | ⟨_, h | ⟨_, h | ⟨_, h⟩⟩⟩)
            · omega
            · omega
            · omega
            · exact h
        · have e1 := i1.1 h1
          have e2 := i2.1 h2
          have e3 : ¬ x.hops.length = y.hops.length := fun h => h3 (i3.2 (by omega))
          rw [if_pos (by simp [h1, h2, h3]), if_neg (by simp [h1]), if_neg (by simp [h2]), l3]
          constructor
          · intro h; exact .inr ⟨e1, .inr ⟨e2, .inl (by omega)⟩⟩
          · rintro (h | ⟨_, h | ⟨_, h | ⟨h, _⟩⟩⟩)
            · omega
            · omega
            · omega
            · exact absurd h e3
      · have e1 := i1.1 h1
        have e2 : ¬ x.exp = y.exp := fun h => h2 (i2.2 h)
        rw [if_pos (by simp [h1, h2]), if_neg (by simp [h1]), if_pos h2, l2]
        constructor
        · intro h; exact .inr ⟨e1, .inl h⟩
        · rintro (h | ⟨_, h | ⟨h, _⟩⟩)
          · omega
          · exact h
          · exact absurd h e2
    · have e1 : ¬ x.amt = y.amt := fun h => h1 (i1.2 h)
      rw [if_pos (by simp [h1]), if_pos h1, l1]
      constructor
      · intro h; exact .inl h
      · rintro (h | ⟨h, _⟩)
        · exact h
        · exact absurd h e1
  cases h : betB x y <;> unfold betB at h <;> rw [h] at this ⊢
  · cases h2 : decide (cmpE x y < 0)
    · rfl
    · exact absurd (this.1 h2) (by simp)
  · exact this.2 rfl
/-! a map that holds a list -/
def posP {α : Type} (p : α → Bool) : List α → Nat → Option (Nat × α)
  | [], _ => none
  | c :: r, i => if p c = true then some (i, c) else posP p r (i + 1)
theorem posP_t {α : Type} {p : α → Bool} {c : α} (h : p c = true) (r : List α) (i : Nat) : posP p (c :: r) i = some (i, c) := by unfold posP; rw [if_pos h]
theorem posP_f {α : Type} {p : α → Bool} {c : α} (h : p c = false) (r : List α) (i : Nat) : posP p (c :: r) i = posP p r (i + 1) := by rw [posP, if_neg (by rw [h]; decide)]
def LiesG {α : Type} (kv : α → Value × Value) (es : List MapEntry) (L : List α) : Prop := es.map (fun e => (e.key, e.val)) = L.map kv
theorem find_gen {α : Type} (kt : TypeId) (k : Value) (p : α → Bool) (kv : α → Value × Value) (hk : ∀ c w, (Op.equal kt k (kv c).1).run Tryz.prog w = .ok (p c) w) : ∀ (es : List MapEntry) (L : List α) (j : Nat) (w : World), LiesG kv es L →
    (Instr.findAsking kt k es j).run Tryz.prog w = .ok ((posP p L j).map fun x => (x.1, (kv x.2).2)) w
  | [], [], j, w, _ => rfl
  | [], _ :: _, _, _, h => by simp [LiesG] at h
  | _ :: _, [], _, _, h => by simp [LiesG] at h
  | e :: es, c :: L, j, w, h => by
    simp only [LiesG, List.map_cons, List.cons.injEq] at h
    obtain ⟨h1, h3⟩ := h
    have h1a : e.key = (kv c).1 := congrArg Prod.fst h1
    have h1b : e.val = (kv c).2 := congrArg Prod.snd h1
    have := find_gen kt k p kv hk es L (j + 1) w h3
    simp only [Instr.findAsking, h1a, h1b, Sem.run_bind, hk, Result.andThen_ok, Sem.run_ite, this, posP, Sem.run_pure]
    cases p c <;> simp
theorem LiesG.push {α : Type} {kv : α → Value × Value} {es : Array MapEntry} {L : List α} (h : LiesG kv es.toList L) (x : α) (c : Nat) : LiesG kv (es.push ⟨(kv x).1, (kv x).2, c⟩).toList (L ++ [x]) := by
  unfold LiesG at *
  rw [Array.toList_push, List.map_append, List.map_append, h]; rfl
theorem posP_spec {α : Type} (p : α → Bool) : ∀ (L : List α) (j i : Nat) (c : α), posP p L j = some (i, c) → j ≤ i ∧ L[i - j]? = some c ∧ p c = true
  | [], j, i, c, h => by cases h
  | d :: L, j, i, c, h => by
    unfold posP at h
    cases hd : p d with
    | true => rw [hd] at h; cases h; exact ⟨Nat.le_refl _, by simp, hd⟩
    | false =>
      rw [hd] at h
      obtain ⟨h1, h2, h3⟩ := posP_spec p L (j + 1) i c (by simpa using h)
      refine ⟨by omega, ?_, h3⟩
      rw [show i - j = (i - (j + 1)) + 1 by omega]
      simpa using h2
theorem posP_find {α : Type} (p : α → Bool) : ∀ (L : List α) (j : Nat), (posP p L j).map (·.2) = L.find? p
  | [], _ => rfl
  | d :: L, j => by
    unfold posP
    rw [List.find?_cons]
    cases hd : p d with
    | true => rfl
    | false => simpa using posP_find p L (j + 1)
/-! the map of policies -/
def keyP (c f : ByteArray) : Value := .agg #[.string c, .string f]
def plcV (p : Plc) : Value := .agg #[.string p.chan, .string p.frm, .int .i64 p.stamp, .int .i64 p.base, .int .i64 p.rate, .int .i64 p.delta, .int .i64 p.min, .int .i64 p.max, .bool p.off]
def kvP (p : Plc) : Value × Value := (keyP p.chan p.frm, plcV p)
def plcZ : Plc := ⟨⟨#[]⟩, ⟨#[]⟩, 0, 0, 0, 0, 0, 0, false⟩
def sameP (c f : ByteArray) (p : Plc) : Bool := decide (p.chan = c ∧ p.frm = f)
theorem run_part0 (a b : Value) (w : World) : (part 9 #[a, b] 0).run Tryz.prog w = .ok a w := by kernel_rfl
theorem run_part1 (a b : Value) (w : World) : (part 23 #[a, b] 1).run Tryz.prog w = .ok b w := by kernel_rfl
theorem toList_beq (a b : ByteArray) : (a.toList == b.toList) = decide (a = b) := by
  by_cases h : a = b
  · subst h; simp
  · have : ¬ a.toList = b.toList := fun e => h (by rw [Lib.toList_data, Lib.toList_data] at e; cases a; cases b; simpa using e)
    simp [h, this]
theorem run_equal_keyP (w : World) (n f n' f' : ByteArray) : (Op.equal 213 (keyP n f) (keyP n' f')).run Tryz.prog w = .ok (decide (n = n' ∧ f = f')) w := by
  have hf : (Tryz.prog.fieldsOf 213).toList.map (fun f => (f.name, f.type, f.offset)) = [("name", 9, 0), ("from", 23, 1)] := by kernel_rfl
  obtain ⟨f0, f1, hff, h00, h01, h02, h10, h11, h12⟩ : ∃ f0 f1 : Field, (Tryz.prog.fieldsOf 213).toList = [f0, f1] ∧ f0.name = "name" ∧ f0.type = 9 ∧ f0.offset = 0 ∧ f1.name = "from" ∧ f1.type = 23 ∧ f1.offset = 1 := by
    generalize (Tryz.prog.fieldsOf 213).toList = l at hf
    rcases l with _ | ⟨a, _ | ⟨b, _ | ⟨c, r⟩⟩⟩
    · simp at hf
    · simp at hf
    · simp at hf; exact ⟨a, b, rfl, hf.1.1, hf.1.2.1, hf.1.2.2, hf.2.1, hf.2.2.1, hf.2.2.2⟩
    · simp at hf
  unfold Op.equal Op.maxDepth keyP
  rw [run_equalIn_agg w 9999 213 _ _ (by kernel_rfl) (by kernel_rfl), hff]
  simp only [Op.eqFields, h00, h01, h02, h10, h11, h12]
  simp only [Sem.run_bind, Sem.run_ite, run_part0, run_part1, Result.andThen_ok, run_equalIn_string w _ 9 n n' Tryz.underlying9, run_equalIn_string w _ 23 f f' Tryz.underlying23, Sem.run_pure]
  rw [toList_beq, toList_beq]
  by_cases e1 : n = n' <;> by_cases e2 : f = f' <;> simp [e1, e2]
theorem run_checkKeyP (e : Bool) (n f : ByteArray) (w : World) : (Instr.checkKey e 10000 213 (keyP n f)).run Tryz.prog w = .ok () w := by kernel_rfl
theorem run_findP (n f : ByteArray) (es : List MapEntry) (L : List Plc) (w : World) (h : LiesG kvP es L) :
    (Instr.findKey 213 (keyP n f) es).run Tryz.prog w = .ok ((posP (sameP n f) L 0).map fun x => (x.1, plcV x.2)) w := by
  have hu : Tryz.prog.underlying 213 = some (.struct (Tryz.prog.fieldsOf 213)) := by kernel_rfl
  have hn : Instr.findNow (.struct (Tryz.prog.fieldsOf 213)) (keyP n f) es 0 = if es = [] then some none else none := by
    cases es with
    | nil => rfl
    | cons e es => rfl
  have hr := find_gen 213 (keyP n f) (sameP n f) kvP (fun c w => by
    have := run_equal_keyP w n f c.chan c.frm
    show (Op.equal 213 (keyP n f) (keyP c.chan c.frm)).run Tryz.prog w = _
    rw [this]; unfold sameP
    exact congrArg (fun b => Result.ok b w) (decide_eq_decide.2 ⟨fun h => ⟨h.1.symm, h.2.symm⟩, fun h => ⟨h.1.symm, h.2.symm⟩⟩)) es L 0 w h
  simp only [Instr.findKey, Sem.run_bind, run_underlying hu, Result.andThen_ok, hn]
  cases es with
  | nil =>
    cases L with
    | nil => rfl
    | cons c L => simp [LiesG] at h
  | cons e es => rw [if_neg (by simp)]; exact hr
theorem run_lookP (n f : ByteArray) (es : Array MapEntry) (clock mb : Nat) (L : List Plc) (w : World) (h : LiesG kvP es.toList L) (hb : w.heap[mb]? = some (.map es clock)) :
    (Instr.lookup 143 (.map (some mb)) (keyP n f) true).run Tryz.prog w = .ok (.tuple #[plcV ((polOf L n f).getD plcZ), .bool (polOf L n f).isSome]) w := by
  have hz : (zeroValue 53).run Tryz.prog w = .ok (plcV plcZ) w := by kernel_rfl
  have hf := run_findP n f es.toList L w h
  have hp : polOf L n f = (posP (sameP n f) L 0).map (·.2) := (posP_find (sameP n f) L 0).symm
  rw [hp]
  simp only [Instr.lookup, Sem.run_bind, run_underlying Tryz.underlying143, Result.andThen_ok, run_getObj_map w mb es clock hb, Sem.run_pure, run_checkKeyP, hf]
  cases posP (sameP n f) L 0 with
  | none => simp [hz, go_sem]
  | some x => simp [go_sem]
theorem run_updP (p : Plc) (es : Array MapEntry) (c mm : Nat) (L : List Plc) (w : World) (hl : LiesG kvP es.toList L) (hb : w.heap[mm]? = some (.map es c)) (hno : polOf L p.chan p.frm = none) :
    (Instr.mapUpdate 143 (.map (some mm)) (keyP p.chan p.frm) (plcV p)).run Tryz.prog w = .ok () (putO w mm (.map (es.push ⟨keyP p.chan p.frm, plcV p, c⟩) (c + 1))) := by
  have hf := run_findP p.chan p.frm es.toList L w hl
  have hp : posP (sameP p.chan p.frm) L 0 = none := by
    have := posP_find (sameP p.chan p.frm) L 0
    unfold polOf at hno
    rw [show (L.find? (sameP p.chan p.frm)) = none from hno] at this
    cases hx : posP (sameP p.chan p.frm) L 0 with
    | none => rfl
    | some x => rw [hx] at this; cases this
  rw [hp] at hf
  simp only [Instr.mapUpdate, Sem.run_bind, run_underlying Tryz.underlying143, Result.andThen_ok, run_getObj_map w mm es c hb, run_checkKeyP, hf, Option.map_none, MapKept.run_setObj_map _ hb]
  rfl
/-! the map of needs -/
abbrev Rn := ByteArray × Nat × En
def kvR (t : Rn) : Value × Value := (.string t.1, .pointer (some ⟨t.2.1, 0, none⟩))
def isR (n : ByteArray) (t : Rn) : Bool := n == t.1
theorem run_findNowR (h : ByteArray) : ∀ (es : List MapEntry) (L : List Rn) (j : Nat), LiesG kvR es L → Instr.findNow .string (.string h) es j = some ((posP (isR h) L j).map fun x => (x.1, (kvR x.2).2))
  | [], [], j, _ => rfl
  | [], _ :: _, _, hl => by simp [LiesG] at hl
  | _ :: _, [], _, hl => by simp [LiesG] at hl
  | e :: es, c :: L, j, hl => by
    simp only [LiesG, List.map_cons, List.cons.injEq] at hl
    obtain ⟨h1, h3⟩ := hl
    have h1a : e.key = .string c.1 := congrArg Prod.fst h1
    have h1b : e.val = (kvR c).2 := congrArg Prod.snd h1
    have ih := run_findNowR h es L (j + 1) h3
    unfold Instr.findNow
    rw [h1a]
    simp only [Instr.sameNow]
    cases hb : isR h c with
    | true => rw [posP_t hb]; rw [show (h == c.1) = true from hb]; simp [h1b]
    | false => rw [posP_f hb]; rw [show (h == c.1) = false from hb]; simp [ih]
theorem run_findR (h : ByteArray) (es : List MapEntry) (L : List Rn) (w : World) (hl : LiesG kvR es L) : (Instr.findKey 23 (.string h) es).run Tryz.prog w = .ok ((posP (isR h) L 0).map fun x => (x.1, (kvR x.2).2)) w := by
  simp only [Instr.findKey, Sem.run_bind, run_underlying Tryz.underlying23, Result.andThen_ok, run_findNowR h es L 0 hl, Sem.run_pure]
theorem run_checkKeyR (e : Bool) (h : ByteArray) (w : World) : (Instr.checkKey e 10000 23 (.string h)).run Tryz.prog w = .ok () w := by kernel_rfl
def ptrO (o : Option (Nat × Rn)) : Value := match o with | none => .pointer none | some x => .pointer (some ⟨x.2.2.1, 0, none⟩)
theorem run_lookR (h : ByteArray) (es : Array MapEntry) (c mm : Nat) (L : List Rn) (w : World) (hl : LiesG kvR es.toList L) (hb : w.heap[mm]? = some (.map es c)) :
    (Instr.lookup 139 (.map (some mm)) (.string h) false).run Tryz.prog w = .ok (ptrO (posP (isR h) L 0)) w := by
  have hz : (zeroValue 136).run Tryz.prog w = .ok (.pointer none) w := by kernel_rfl
  have hf := run_findR h es.toList L w hl
  simp only [Instr.lookup, Sem.run_bind, run_underlying Tryz.underlying139, Result.andThen_ok, run_getObj_map w mm es c hb, Sem.run_pure, run_checkKeyR, hf]
  cases posP (isR h) L 0 with
  | none => simp [hz, go_sem, ptrO]
  | some x => simp [go_sem, ptrO, kvR]
theorem run_updR (h : ByteArray) (b : Nat) (x : En) (es : Array MapEntry) (c mm : Nat) (L : List Rn) (w : World) (hl : LiesG kvR es.toList L) (hb : w.heap[mm]? = some (.map es c)) :
    ∃ es' c' L', (Instr.mapUpdate 139 (.map (some mm)) (.string h) (.pointer (some ⟨b, 0, none⟩))).run Tryz.prog w = .ok () (putO w mm (.map es' c')) ∧ LiesG kvR es'.toList L' ∧ L' = (match posP (isR h) L 0 with | none => L ++ [(h, b, x)] | some (i, t) => L.set i (h, b, x)) := by
  have hf := run_findR h es.toList L w hl
  cases hp : posP (isR h) L 0 with
  | none =>
    rw [hp] at hf
    refine ⟨es.push ⟨.string h, .pointer (some ⟨b, 0, none⟩), c⟩, c + 1, _, ?_, LiesG.push (kv := kvR) hl (h, b, x) c, rfl⟩
    simp only [Instr.mapUpdate, Sem.run_bind, run_underlying Tryz.underlying139, Result.andThen_ok, run_getObj_map w mm es c hb, run_checkKeyR, hf, Option.map_none, MapKept.run_setObj_map _ hb]
    rfl
  | some y =>
    obtain ⟨i, t⟩ := y
    rw [hp] at hf
    obtain ⟨_, h2, h3⟩ := posP_spec _ _ _ _ _ hp
    have ht : h = t.1 := (ba_beq _ _).1 h3
    simp only [Nat.sub_zero] at h2
    have hlen : es.toList.length = L.length := by have := congrArg List.length hl; simpa using this
    have hi : i < L.length := by
      rcases Nat.lt_or_ge i L.length with h | h
      · exact h
      · rw [List.getElem?_eq_none h] at h2; cases h2
    have hie : i < es.size := by rw [← hlen] at hi; simpa using hi
    have hke : es[i].key = .string h := by
      have := congrArg (fun l => l[i]?) hl
      simp only [List.getElem?_map, h2, Option.map_some, Array.getElem?_toList, Array.getElem?_eq_getElem hie, Option.some.injEq] at this
      rw [ht]; exact congrArg Prod.fst this
    have hsb : Instr.sameBits 10000 (.string h) (.string h) = true := by
      show (h == h) = true
      simp
    refine ⟨es.modify i fun e => { e with key := .string h, val := .pointer (some ⟨b, 0, none⟩) }, c, _, ?_, ?_, rfl⟩
    · simp only [Instr.mapUpdate, Sem.run_bind, run_underlying Tryz.underlying139, Result.andThen_ok, run_getObj_map w mm es c hb, run_checkKeyR, hf, Option.map_some, Array.getElem?_eq_getElem hie, Option.getD_some, hke, Instr.keyThatStays, hsb, if_true, Sem.run_pure, MapKept.run_setObj_map _ hb]
      rfl
    · unfold LiesG at *
      rw [Array.toList_modify, List.map_set, ← hl]
      apply List.ext_getElem
      · simp
      · intro k h1 h2
        simp only [List.getElem_map, List.getElem_modify, List.getElem_set]
        by_cases hk : i = k
        · simp [hk, kvR]
        · simp [hk]
/-- the needs that lie in a map -/
def ReachAt (W : World) (mm : Nat) (R : List (ByteArray × En)) : Prop := ∃ es c L, W.heap[mm]? = some (.map es c) ∧ LiesG kvR es.toList L ∧ R = L.map (fun t => (t.1, t.2.2)) ∧ ∀ t ∈ L, EndAt W t.2.1 t.2.2.amt t.2.2.exp t.2.2.hops
theorem look_pos (n : ByteArray) : ∀ (L : List Rn) (j : Nat), lookR (L.map (fun t => (t.1, t.2.2))) n = (posP (isR n) L j).map (fun x => x.2.2.2)
  | [], _ => rfl
  | (m, b, x) :: L, j => by
    have ih := look_pos n L (j + 1)
    simp only [List.map_cons, lookR]
    by_cases h : m = n
    · subst h
      rw [posP_t (by unfold isR; simp)]; simp
    · have hb : isR n (m, b, x) = false := by
        unfold isR
        cases hb : n == m with
        | false => rfl
        | true => exact absurd ((ba_beq _ _).1 hb).symm h
      rw [if_neg h, posP_f hb, ih]
theorem put_pos (n : ByteArray) (b : Nat) (x : En) : ∀ (L : List Rn) (j : Nat), (match posP (isR n) L j with | none => True | some (i, t) => betB x t.2.2 = true) →
    putR (L.map (fun t : Rn => (t.1, t.2.2))) n x = (match posP (isR n) L j with | none => L ++ [(n, b, x)] | some (i, t) => L.set (i - j) (n, b, x)).map (fun t : Rn => (t.1, t.2.2))
  | [], _, _ => rfl
  | (m, c, y) :: L, j, hh => by
    simp only [List.map_cons, putR]
    by_cases h : m = n
    · subst h
      have hp : posP (isR m) ((m, c, y) :: L) j = some (j, (m, c, y)) := posP_t (by unfold isR; simp) _ _
      rw [hp] at hh ⊢
      dsimp only at hh ⊢
      simp [bestE, hh]
    · have hb : isR n (m, c, y) = false := by
        unfold isR
        cases hb : n == m with
        | false => rfl
        | true => exact absurd ((ba_beq _ _).1 hb).symm h
      have hp : posP (isR n) ((m, c, y) :: L) j = posP (isR n) L (j + 1) := posP_f hb _ _
      rw [hp] at hh ⊢
      rw [if_neg h, put_pos n b x L (j + 1) hh]
      cases hq : posP (isR n) L (j + 1) with
      | none => rfl
      | some z =>
        obtain ⟨i, t⟩ := z
        obtain ⟨q1, _, _⟩ := posP_spec _ _ _ _ _ hq
        dsimp only
        rw [show i - j = (i - (j + 1)) + 1 by omega]
        rfl
theorem put_not (n : ByteArray) (x : En) : ∀ (L : List Rn) (j i : Nat) (t : Rn), posP (isR n) L j = some (i, t) → betB x t.2.2 = false → putR (L.map (fun t : Rn => (t.1, t.2.2))) n x = L.map (fun t : Rn => (t.1, t.2.2))
  | [], _, _, _, h, _ => by cases h
  | (m, c, y) :: L, j, i, t, hp, hh => by
    simp only [List.map_cons, putR]
    by_cases h : m = n
    · subst h
      have hp' : posP (isR m) ((m, c, y) :: L) j = some (j, (m, c, y)) := posP_t (by unfold isR; simp) _ _
      rw [hp'] at hp
      cases hp
      dsimp only at hh
      simp [bestE, hh]
    · have hb : isR n (m, c, y) = false := by
        unfold isR
        cases hb : n == m with
        | false => rfl
        | true => exact absurd ((ba_beq _ _).1 hb).symm h
      have hp' : posP (isR n) ((m, c, y) :: L) j = posP (isR n) L (j + 1) := posP_f hb _ _
      rw [hp'] at hp
      rw [if_neg h, put_not n x L (j + 1) i t hp hh]
end Go.Proofs.YtbdimlppnhcicaaGreatDoor
/- route: the better one is kept -/
namespace Go.Proofs.YtbdimlppnhcicaaGreatDoor
set_option linter.unusedVariables false
open Go.RowKit Rte
/-! route: the better one is kept; what is to reach a way's beginning -/
def endPtr (o : Option (Nat × En)) : Value := match o with | none => .pointer none | some x => .pointer (some ⟨x.1, 0, none⟩)
def OptEnd (W : World) (o : Option (Nat × En)) : Prop := match o with | none => True | some x => EndAt W x.1 x.2.amt x.2.exp x.2.hops
def putO' (R : List (ByteArray × En)) (n : ByteArray) (o : Option (Nat × En)) : List (ByteArray × En) := match o with | none => R | some x => putR R n x.2
theorem keepC_fr {mm : Nat} {W w' : World} {es : Array MapEntry} {c : Nat} (hm : W.heap[mm]? = some (.map es c)) (h : Fr (fun k => k = mm) W w') : KeepC W w' := by
  intro k cs t f hk
  rw [h.block k (lt_of_heap hk) (by rintro rfl; rw [hm] at hk; cases hk)]
  exact hk
set_option maxRecDepth 100000 in
set_option maxHeartbeats 8000000 in
theorem best_any (mm : Nat) (R : List (ByteArray × En)) (n : ByteArray) (o : Option (Nat × En)) (w : World) (hR : ReachAt w mm R) (ho : OptEnd w o) :
    Calls Tryz.prog 78 #[.map (some mm), .string n, endPtr o] w fun e w' => e = .returned (.tuple #[]) ∧ Fr (fun k => k = mm) w w' ∧ ReachAt w' mm (putO' R n o) := by
  obtain ⟨es, c, L, hm, hl, hRL, hE⟩ := hR
  cases o with
  | none =>
    have hlk := run_lookR n es c mm L w hl hm
    have hend : ReachAt w mm R := ⟨es, c, L, hm, hl, hRL, hE⟩
    have HE := Lib.hid hend
    generalize ptrO (posP (isR n) L 0) = pv at hlk
    clear hm hl hRL hE hend ho
    show Calls Tryz.prog 78 #[.map (some mm), .string n, .pointer none] w _
    go_enter Tryz.func78, Tryz.ntmps78
    go_wp2_with fail
    go_end0
    exact ⟨rfl, Fr.refl _ _, HE.out⟩
  | some x =>
    obtain ⟨b, x⟩ := x
    show Calls Tryz.prog 78 #[.map (some mm), .string n, .pointer (some ⟨b, 0, none⟩)] w _
    have hlk := run_lookR n es c mm L w hl hm
    cases hp : posP (isR n) L 0 with
    | none =>
      rw [hp] at hlk
      obtain ⟨es', c', L', hu, hl', hL'⟩ := run_updR n b x es c mm L w hl hm
      rw [hp] at hL'
      have hend : ReachAt (putO w mm (.map es' c')) mm (putR R n x) := by
        refine ⟨es', c', L', putO_same hm, hl', ?_, ?_⟩
        · have := put_pos n b x L 0 (by rw [hp]; trivial)
          rw [hp] at this
          rw [hRL, this, hL']
        · have kc := keepC_fr hm ((Fr.refl (fun k => k = mm) w).putO mm (.map es' c') rfl)
          rw [hL']
          intro t ht
          rcases List.mem_append.1 ht with ht | ht
          · exact (hE t ht).keep kc
          · obtain rfl : t = (n, b, x) := by simpa using ht
            exact EndAt.keep kc ho
      have HE := Lib.hid hend
      have HF : Hid (Fr (fun k => k = mm) w (putO w mm (.map es' c'))) := (Fr.refl (fun k => k = mm) w).putO mm (.map es' c') rfl
      change (Instr.lookup 139 (.map (some mm)) (.string n) false).run Tryz.prog w = .ok (.pointer none) w at hlk
      clear hm hl hRL hE hend ho hp hl' hL'
      go_enter Tryz.func78, Tryz.ntmps78
      go_wp2_with fail
      go_end0
      exact ⟨rfl, HF.out, HE.out⟩
    | some z =>
      obtain ⟨i, t⟩ := z
      rw [hp] at hlk
      change (Instr.lookup 139 (.map (some mm)) (.string n) false).run Tryz.prog w = .ok (.pointer (some ⟨t.2.1, 0, none⟩)) w at hlk
      obtain ⟨_, q2, q3⟩ := posP_spec _ _ _ _ _ hp
      simp only [Nat.sub_zero] at q2
      have ht := hE t (List.mem_of_getElem? q2)
      have hc := cmpE_lt x t.2.2
      have HC := Lib.hid (cmp_any b t.2.1 x t.2.2 w ho ht)
      obtain ⟨tb, htb⟩ : ∃ k, t.2.1 = k := ⟨_, rfl⟩
      rw [htb] at hlk HC
      obtain ⟨r, hr⟩ : ∃ r, cmpE x t.2.2 = r := ⟨_, rfl⟩
      rw [hr] at hc HC
      cases hb : betB x t.2.2 with
      | true =>
        rw [hb] at hc
        have hd : decide (r < 0) = true := hc
        have HN : Hid (∀ w1, Below w.heap.size w w1 → ∃ es' c', (Instr.mapUpdate 139 (.map (some mm)) (.string n) (.pointer (some ⟨b, 0, none⟩))).run Tryz.prog w1 = .ok () (putO w1 mm (.map es' c')) ∧ Fr (fun k => k = mm) w (putO w1 mm (.map es' c')) ∧ ReachAt (putO w1 mm (.map es' c')) mm (putR R n x)) := by
          intro w1 hb1
          have hm1 : w1.heap[mm]? = some (.map es c) := (hb1.block mm (lt_of_heap hm)).trans hm
          obtain ⟨es', c', L', hu, hl', hL'⟩ := run_updR n b x es c mm L w1 hl hm1
          rw [hp] at hL'
          refine ⟨es', c', hu, (Fr.below hb1).putO mm _ rfl, es', c', L', putO_same hm1, hl', ?_, ?_⟩
          · have := put_pos n b x L 0 (by rw [hp]; exact hb)
            rw [hp] at this
            rw [hRL, this, hL']
            rfl
          · have kc := keepC_fr hm1 ((Fr.refl (fun k => k = mm) w1).putO mm (.map es' c') rfl)
            rw [hL']
            intro u hu
            rcases List.mem_or_eq_of_mem_set hu with hu | rfl
            · exact ((hE u hu).below hb1).keep kc
            · exact EndAt.keep kc (EndAt.below ho hb1)
        clear hm hl hRL hE ho hp q2 q3 ht hb hr htb hc
        go_enter Tryz.func78, Tryz.ntmps78
        go_upto_region 2 with ((go_at_call 79; (with_reducible refine Calls.mono HC.out ?_); rintro e w1 ⟨rfl, hb1⟩; have B1 := Lib.hid hb1; clear hb1))
        obtain ⟨es', c', hu, hF, hE⟩ := HN.out _ B1.out
        have HF := Lib.hid hF; have HE := Lib.hid hE
        clear hF hE
        go_wp2_with fail
        go_end0
        exact ⟨rfl, HF.out, HE.out⟩
      | false =>
        rw [hb] at hc
        have hd : decide (r < 0) = false := hc
        have HN : Hid (∀ w1, Below w.heap.size w w1 → ReachAt w1 mm (putR R n x)) := by
          intro w1 hb1
          rw [hRL, put_not n x L 0 i t hp hb]
          exact ⟨es, c, L, (hb1.block mm (lt_of_heap hm)).trans hm, hl, rfl, fun u hu => (hE u hu).below hb1⟩
        clear hm hl hRL hE ho hp q2 q3 ht hb hr htb hc
        go_enter Tryz.func78, Tryz.ntmps78
        go_wp2_with ((go_at_call 79; (with_reducible refine Calls.mono HC.out ?_); rintro e w1 ⟨rfl, hb1⟩; have B1 := Lib.hid hb1; clear hb1))
        go_end0
        exact ⟨rfl, Fr.below B1.out, HN.out _ B1.out⟩
end Go.Proofs.YtbdimlppnhcicaaGreatDoor
