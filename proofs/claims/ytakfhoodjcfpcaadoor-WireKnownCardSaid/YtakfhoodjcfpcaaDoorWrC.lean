/- wire: Counts -/
import Derived.Calls
import Derived.WalkKit
import Derived.WalkSpells
import Derived.WalkLawsBesides
import Derived.Handy
import Derived.Lib.Hide
import Derived.Deep.AppendLies
import Derived.Deep.LoopGhost
import Derived.Outline
import Derived.Laws.BitsAllLaws
import Derived.Laws.BitsLemmas
import Derived.Lib.AppendZeros
import Derived.Lib.AppendZerosOnto
import Derived.Maps.AppendAt
import Derived.Laws.Append
import Derived.Laws.AppendOwn
import Derived.Deep.QuietTactic
import Derived.BigQuiet
import Derived.Deep.RegionHeld3
import Derived.Lib.ConvBytes
import Derived.Laws.BytesArg
import Derived.Lib.ParseIntB
import Derived.Lib.Bytealg
import Derived.Shelf.Small.Strs
import Derived.Shelf.Strconv.Itoa0
import Derived.Shelf.Strconv.ParseIntEmpty
import Derived.Shelf.LaysM
import Derived.Shelf.Strconv.Clone
import Derived.Shelf.Strconv.SyntaxError
import Derived.Shelf.LaysC
import Derived.Shelf.Strconv.ToError
import Derived.Shelf.Strconv.Lower
import Derived.Shelf.Strconv.ParseUint10
import Derived.Shelf.Strconv.ParseUint10Empty
import Derived.Shelf.Strconv.ParseUint10Any
import Derived.Shelf.Strconv.ParseInt10
import Derived.Shelf.Strconv.RangeError
import Derived.Shelf.Strconv.ToErrorRange
import Derived.Shelf.Strconv.ParseUintEmpty
import Derived.Shelf.Strconv.ParseUint10b64
import Derived.Shelf.Strconv.ParseUint10b32
import Derived.Shelf.Strconv.ParseUint10b16
import Derived.Shelf.Strconv.ParseUint10b8
import Derived.Shelf.Strconv.ParseUint10At
import Derived.Shelf.Strconv.ParseInt10At64
import Derived.Shelf.Strconv.ParseInt10At32
import Derived.Shelf.Strconv.ParseInt10At16
import Derived.Shelf.Strconv.ParseInt10At8
import Derived.Shelf.Strconv.ParseInt10All
import Derived.Shelf.Strconv.ParseIntPublic10
import Derived.Shelf.Strconv.ErrVarParseInt
import Derived.Shelf.Strings.Search1
import Derived.Lib.Strings
import Derived.Lib.IndexBytes
import Derived.BigRegion
import Derived.Deep.RegionLaw
import Derived.Deep.Onto
import Derived.Deep.WholeRow
import Derived.Deep.CutRange
import Derived.Laws.CopyOwn
import Derived.Below
import Derived.WalkMore
import Derived.MapKept
import Derived.Carry
import Derived.Test.YtakfhoodjcfpcaaDoorRows
import Derived.Test.YtakfhoodjcfpcaaDoorProg
import Derived.Test.YtakfhoodjcfpcaaDoorTlA
import Derived.Test.YtakfhoodjcfpcaaDoorTlH
import Derived.Test.YtakfhoodjcfpcaaDoorTlI
import Derived.Test.YtakfhoodjcfpcaaDoorNumA
import Derived.Test.YtakfhoodjcfpcaaDoorNumB
import Derived.Test.YtakfhoodjcfpcaaDoorTa
import Derived.Test.YtakfhoodjcfpcaaDoorRefG
import Derived.Test.YtakfhoodjcfpcaaDoorWirP
import Derived.Test.YtakfhoodjcfpcaaDoorWrB
namespace Go.Proofs.YtakfhoodjcfpcaaDoor.T
set_option linter.unusedVariables false
set_option maxRecDepth 100000
open Go.RowKit Tlv Wire
/-! wire: Counts -/
def CntPost (k : Nat) (w : World) (e : Ending) (w' : World) : Prop := e = .returned (.tuple #[.int .i64 ((countsN k).1 : Int), .int .i64 ((countsN k).2.1 : Int), .bool (countsN k).2.2]) ∧ Below w.heap.size w w'
set_option maxHeartbeats 4000000 in
theorem counts_any (k : Nat) (w : World) : Calls Tryd.prog 10 #[.int .u16 (k : Int)] w (CntPost k w) := by
  unfold CntPost countsN
  have hlk : Hid (∀ (W : World) (mm : Nat), MapR W mm rows → (Instr.lookup 54 (.map (some mm)) (.int .u16 (k : Int)) true).run Tryd.prog W = .ok (.tuple #[.agg #[.int .i64 ((Wire.look rows k).1 : Int), .int .i64 ((Wire.look rows k).2.1 : Int)], .bool (Wire.look rows k).2.2]) W) := fun W mm h => run_lookR k mm rows W h
  generalize ((Wire.look rows k).1 : Int) = c1 at hlk ⊢
  generalize ((Wire.look rows k).2.1 : Int) = c2 at hlk ⊢
  generalize (Wire.look rows k).2.2 = c3 at hlk ⊢
  generalize (k : Int) = kv at hlk ⊢
  go_enter Tryd.func10, Tryd.ntmps10
  go_wp2_with (first
    | (go_at_call 20; (with_reducible refine Calls.mono (kinds_any _) ?_); rintro e w1 ⟨rfl, hm1, hb1⟩; have HB1 := Lib.hid hb1; have hl := hlk.out w1 _ hm1; clear hm1 hb1)
    | go_quiet (fail))
  go_ret3
  refine ⟨rfl, ?_⟩
  have h1 := HB1.out
  exact below_drewN (h1.alloc h1.size _) _
def rowCells : List (Nat × Nat × Nat) → List Value
  | [] => []
  | x :: r => .int .u16 (x.1 : Int) :: .int .i64 (x.2.1 : Int) :: .int .i64 (x.2.2 : Int) :: rowCells r
theorem rowCells_at : ∀ (L : List (Nat × Nat × Nat)) (i : Nat) (x : Nat × Nat × Nat), L[i]? = some x → (rowCells L)[i * 3]? = some (.int .u16 (x.1 : Int)) ∧ (rowCells L)[i * 3 + 1]? = some (.int .i64 (x.2.1 : Int)) ∧ (rowCells L)[i * 3 + 2]? = some (.int .i64 (x.2.2 : Int))
  | [], i, x, h => by simp at h
  | a :: r, 0, x, h => by simp at h; subst h; simp [rowCells]
  | a :: r, i + 1, x, h => by
    have := rowCells_at r i x (by simpa using h)
    have e : (i + 1) * 3 = i * 3 + 3 := by omega
    rw [e]
    simpa [rowCells] using this
set_option maxHeartbeats 8000000 in
theorem table_any (w : World) : Calls Tryd.prog 21 #[] w fun e w' => ∃ g, e = .returned (.slice (some ⟨g, 0, none⟩) 20 20) ∧ w'.heap[g]? = some (.cells (rowCells rows).toArray 59 (0, 0)) ∧ Below w.heap.size w w' := by
  go_enter Tryd.func21, Tryd.ntmps21
  go_wp2_with fail
  go_ret
  exact ⟨w.heap.size, rfl, heap_alloc_at w _, (Below.refl _ _).alloc (Nat.le_refl _) _⟩
set_option maxHeartbeats 4000000 in
theorem countsr_any (k : Nat) (w : World) : Calls Tryd.prog 11 #[.int .u16 (k : Int)] w (CntPost k w) := by
  unfold CntPost countsN
  obtain ⟨c1, hc1⟩ : ∃ c1 : Int, ((Wire.look rows k).1 : Int) = c1 := ⟨_, rfl⟩
  obtain ⟨c2, hc2⟩ : ∃ c2 : Int, ((Wire.look rows k).2.1 : Int) = c2 := ⟨_, rfl⟩
  obtain ⟨c3, hc3⟩ : ∃ c3, (Wire.look rows k).2.2 = c3 := ⟨_, rfl⟩
  have hres : Hid (((Wire.look (rows.drop 0) k).1 : Int) = c1 ∧ ((Wire.look (rows.drop 0) k).2.1 : Int) = c2 ∧ (Wire.look (rows.drop 0) k).2.2 = c3) := ⟨hc1, hc2, hc3⟩
  rw [hc1, hc2, hc3]
  clear hc1 hc2 hc3
  obtain ⟨kv, hkv⟩ : ∃ kv : Int, (k : Int) = kv := ⟨_, rfl⟩
  rw [hkv]
  have HKV := Lib.hid hkv
  clear hkv
  go_enter Tryd.func11, Tryd.ntmps11
  go_wp2_with (go_at_call 21; (with_reducible refine Calls.mono (table_any _) ?_); rintro e w1 ⟨g, rfl, ht, hb1⟩; have HT := Lib.hid ht; have HB1 := Lib.hid hb1; clear ht hb1)
  go_loopw [6] (fun iv wr => ∃ i : Nat, i ≤ 20 ∧ iv = .int .i64 i ∧ wr = w1 ∧ Hid (((Wire.look (rows.drop i) k).1 : Int) = c1 ∧ ((Wire.look (rows.drop i) k).2.1 : Int) = c2 ∧ (Wire.look (rows.drop i) k).2.2 = c3)) (fun iv _ => 20 - (intOf iv).toNat)
  case atStart => exact ⟨0, by omega, by go_num, rfl, hres.out⟩
  case round =>
    obtain ⟨i, hi, rfl, rfl, hr⟩ := hrel
    by_cases hlt : i < 20
    · have hlt' : i < rows.length := hlt
      obtain ⟨x, hx⟩ : ∃ x, rows[i]? = some x := ⟨_, List.getElem?_eq_getElem hlt'⟩
      obtain ⟨q0, q1, q2⟩ := rowCells_at rows i x hx
      have d0 : wr.cell? ⟨g, i * 3, none⟩ = some (.int .u16 (x.1 : Int)) := by rw [cell_of_row _ _ _ _ _ _ HT.out, List.getElem?_toArray]; exact q0
      have d1 : wr.cell? ⟨g, i * 3 + 1, none⟩ = some (.int .i64 (x.2.1 : Int)) := by rw [cell_of_row _ _ _ _ _ _ HT.out, List.getElem?_toArray]; exact q1
      have d2 : wr.cell? ⟨g, i * 3 + 2, none⟩ = some (.int .i64 (x.2.2 : Int)) := by rw [cell_of_row _ _ _ _ _ _ HT.out, List.getElem?_toArray]; exact q2
      have hd : rows.drop i = x :: rows.drop (i + 1) := by
        rw [List.drop_eq_getElem_cons hlt']
        rw [List.getElem?_eq_getElem hlt'] at hx
        rw [Option.some.inj hx]
      have hi2 : (i : Int) < 20 := by omega
      obtain ⟨xk, hxk⟩ : ∃ xk : Int, (x.1 : Int) = xk := ⟨_, rfl⟩
      obtain ⟨xn, hxn⟩ : ∃ xk : Int, (x.2.1 : Int) = xk := ⟨_, rfl⟩
      obtain ⟨xt, hxt⟩ : ∃ xk : Int, (x.2.2 : Int) = xk := ⟨_, rfl⟩
      rw [hxk] at d0
      rw [hxn] at d1
      rw [hxt] at d2
      have HX := Lib.hid hxk; have HN := Lib.hid hxn; have HT2 := Lib.hid hxt; have HD := Lib.hid hd
      clear q0 q1 q2 hx hd hxk hxn hxt
      by_cases hk : xk = kv
      · have he : (xk == kv) = true := by simp [hk]
        have HK := Lib.hid hk
        clear hk
        go_wp2_with (go_quiet (fail))
        go_ret3
        refine ⟨?_, below_drewN HB1.out _⟩
        have h := hr.out
        rw [HD.out] at h
        have hxk : x.1 = k := by have := HX.out; have := HKV.out; have := HK.out; omega
        obtain ⟨a, b, c⟩ := x
        unfold Wire.look at h
        rw [if_pos hxk] at h
        have h1 : xn = c1 := HN.out.symm.trans h.1
        have h2 : xt = c2 := HT2.out.symm.trans h.2.1
        rw [h1, h2, ← h.2.2]
        rfl
      · have he : (xk == kv) = false := by simp [hk]
        have HK := Lib.hid hk
        clear hk
        go_wp2_with fail
        go_roundw
        case rel =>
          refine ⟨i + 1, by omega, by go_num, by first | rfl | trivial, ?_⟩
          have h := hr.out
          rw [HD.out] at h
          have hxk : ¬ x.1 = k := by have := HX.out; have := HKV.out; have := HK.out; omega
          obtain ⟨a, b, c⟩ := x
          unfold Wire.look at h
          rw [if_neg hxk] at h
          exact h
        case measure => simp [intOf]; omega
    · obtain rfl : i = 20 := by omega
      go_wp2_with fail
      go_ret3
      refine ⟨?_, HB1.out⟩
      have h := hr.out
      rw [show rows.drop 20 = [] from rfl] at h
      unfold Wire.look at h
      rw [← h.1, ← h.2.1, ← h.2.2]
      rfl
end Go.Proofs.YtakfhoodjcfpcaaDoor.T
