/- term: law.go's same, of two equal opened terms. -/
import Derived.Test.YtlheoipengndnabGreatDoorBa
import Derived.Deep.CutRange
namespace Go.Proofs.YtlheoipengndnabGreatDoor
set_option linter.unusedVariables false
open Go.RowKit
set_option maxRecDepth 100000 in
set_option maxHeartbeats 4000000 in
theorem same_any (op n : Int) (u : ByteArray) (o1 o2 : Option Addr) (m k1 k2 : Nat) (vs : List ByteArray) (w : World) (hn : vs.length = m) (hm : m ≤ maxLen) (h1 : StrsAt o1 vs w) (h2 : StrsAt o2 vs w) : Calls Tryz.prog 19 #[.agg #[.int .u8 op, .int .i64 n, .string u, .slice o1 m k1], .agg #[.int .u8 op, .int .i64 n, .string u, .slice o2 m k2]] w fun e w' => e = .returned (.bool true) ∧ Below w.heap.size w w' := by
  have HN := Lib.hid hn
  have H1 := Lib.hid h1
  have H2 := Lib.hid h2
  unfold maxLen at hm
  clear hn h1 h2
  go_enter Tryz.func19, Tryz.ntmps19
  go_upto_region 1 with fail
  have B2 : Hid (Below w.heap.size w ((w.alloc (.cells #[.int .u8 op, .int .i64 n, .string u, .slice o1 m k1] 39)).alloc (.cells #[.int .u8 op, .int .i64 n, .string u, .slice o2 m k2] 39))) := ((Below.refl _ _).alloc (Nat.le_refl _) _).alloc (by simp) _
  have CX : Hid (((w.alloc (.cells #[.int .u8 op, .int .i64 n, .string u, .slice o1 m k1] 39)).alloc (.cells #[.int .u8 op, .int .i64 n, .string u, .slice o2 m k2] 39)).heap[w.heap.size]? = some (.cells #[.int .u8 op, .int .i64 n, .string u, .slice o1 m k1] 39 (0, 0))) := (Below.heap_alloc _ _ _ (by simp)).trans (heap_alloc_at w _)
  have CY : Hid (((w.alloc (.cells #[.int .u8 op, .int .i64 n, .string u, .slice o1 m k1] 39)).alloc (.cells #[.int .u8 op, .int .i64 n, .string u, .slice o2 m k2] 39)).heap[w.heap.size + 1]? = some (.cells #[.int .u8 op, .int .i64 n, .string u, .slice o2 m k2] 39 (0, 0))) := by
    have := heap_alloc_at (w.alloc (.cells #[.int .u8 op, .int .i64 n, .string u, .slice o1 m k1] 39)) (.cells #[.int .u8 op, .int .i64 n, .string u, .slice o2 m k2] 39)
    rw [World.size_alloc] at this
    exact this
  generalize (w.alloc (.cells #[.int .u8 op, .int .i64 n, .string u, .slice o1 m k1] 39)).alloc (.cells #[.int .u8 op, .int .i64 n, .string u, .slice o2 m k2] 39) = w2 at B2 CX CY ⊢
  obtain ⟨a, ha⟩ : ∃ a, w.heap.size = a := ⟨_, rfl⟩
  have HA := Lib.hid ha
  rw [ha] at CX CY ⊢
  clear ha
  obtain ⟨b, hb⟩ : ∃ b, a + 1 = b := ⟨_, rfl⟩
  rw [hb] at CY ⊢
  clear hb
  have al : a < w2.heap.size := (Array.getElem?_eq_some_iff.1 CX.out).1
  have bl : b < w2.heap.size := (Array.getElem?_eq_some_iff.1 CY.out).1
  have x_0 : w2.cell? ⟨a, 0, none⟩ = some (.int .u8 op) := by simp [World.cell?, CX.out]
  have x_1 : w2.cell? ⟨a, 1, none⟩ = some (.int .i64 n) := by simp [World.cell?, CX.out]
  have x_2 : w2.cell? ⟨a, 2, none⟩ = some (.string u) := by simp [World.cell?, CX.out]
  have x_3 : w2.cell? ⟨a, 3, none⟩ = some (.slice o1 m k1) := by simp [World.cell?, CX.out]
  have y_0 : w2.cell? ⟨b, 0, none⟩ = some (.int .u8 op) := by simp [World.cell?, CY.out]
  have y_1 : w2.cell? ⟨b, 1, none⟩ = some (.int .i64 n) := by simp [World.cell?, CY.out]
  have y_2 : w2.cell? ⟨b, 2, none⟩ = some (.string u) := by simp [World.cell?, CY.out]
  have y_3 : w2.cell? ⟨b, 3, none⟩ = some (.slice o2 m k2) := by simp [World.cell?, CY.out]
  have S1 := Lib.hid (H1.out.below B2.out)
  have S2 := Lib.hid (H2.out.below B2.out)
  have hnu : ∀ W : World, (Op.stringOp .neq u u).run Tryz.prog W = .ok (.bool false) W := fun W => by simp [Op.stringOp, Sem.run_pure]
  go_wp2_with fail
  go_loopw [5] (fun iv wr => ∃ (j : Nat), j ≤ m ∧ iv = .int .i64 (j : Int) ∧ Hid (Below w2.heap.size w2 wr)) (fun iv _ => m - (intOf iv).toNat)
  case atStart => exact ⟨0, by omega, rfl, Below.refl _ _⟩
  case round =>
    obtain ⟨j, hj, rfl, hB⟩ := hrel
    have BW : Hid (Below w.heap.size w wr) := B2.out.trans (hB.out.mono B2.out.size)
    have p_3 : wr.cell? ⟨a, 3, none⟩ = some (.slice o1 m k1) := (hB.out.cell (p := ⟨a, 3, none⟩) al).trans x_3
    have q_3 : wr.cell? ⟨b, 3, none⟩ = some (.slice o2 m k2) := (hB.out.cell (p := ⟨b, 3, none⟩) bl).trans y_3
    by_cases hlt : j < m
    · obtain ⟨s, hs⟩ : ∃ s, vs[j]? = some s := ⟨_, List.getElem?_eq_getElem (by have := HN.out; omega)⟩
      obtain ⟨g, off, rfl, hc⟩ : ∃ g off, o1 = some ⟨g, off, none⟩ ∧ wr.cell? ⟨g, off + j, none⟩ = some (.string s) := by
        rcases S1.out.below hB.out with h | ⟨g, off, e, h⟩
        · rw [h] at hs; simp at hs
        · exact ⟨g, off, e, h j s hs⟩
      obtain ⟨g', off', rfl, hc'⟩ : ∃ g off, o2 = some ⟨g, off, none⟩ ∧ wr.cell? ⟨g, off + j, none⟩ = some (.string s) := by
        rcases S2.out.below hB.out with h | ⟨g, off, e, h⟩
        · rw [h] at hs; simp at hs
        · exact ⟨g, off, e, h j s hs⟩
      have hji : (j : Int) < (m : Int) := by omega
      have hns : ∀ W : World, (Op.stringOp .neq s s).run Tryz.prog W = .ok (.bool false) W := fun W => by simp [Op.stringOp, Sem.run_pure]
      clear hs
      go_upto_region 6 with fail
      go_region
      go_wp2_with fail
      go_roundw
      case rel => exact ⟨j + 1, by omega, by congr 1, hB.out.drew⟩
      case measure => simp [intOf]; omega
    · obtain rfl : j = m := by omega
      go_wp2_with fail
      go_ret
      exact ⟨rfl, BW.out⟩
end Go.Proofs.YtlheoipengndnabGreatDoor
