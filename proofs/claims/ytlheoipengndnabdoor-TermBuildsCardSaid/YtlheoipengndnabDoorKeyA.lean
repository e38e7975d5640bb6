/- term: key. -/
import Derived.Test.YtlheoipengndnabDoorPlainB
import Derived.Test.YtlheoipengndnabDoorBldD
import Derived.Deep.CutRange
namespace Go.Proofs.YtlheoipengndnabDoor
set_option linter.unusedVariables false
open Go.RowKit
def keyS (t : ByteArray) : ByteArray := ⟨(keyB t.data.toList).toArray⟩
theorem lt2 {a b c : World} (h : Below a.heap.size a b) (k : Below b.heap.size b c) : Below a.heap.size a c := h.trans (k.mono h.size)
theorem keep3 {w W : World} {p p' p'' : Addr} {v v' v'' : Value} (hb : Below w.heap.size w W) (h0 : w.cell? p = some v) (h1 : w.cell? p' = some v') (h2 : w.cell? p'' = some v'') : Below w.heap.size w W ∧ W.cell? p = some v ∧ W.cell? p' = some v' ∧ W.cell? p'' = some v'' :=
  ⟨hb, (hb.cell (World.block_lt_of_cell? w _ h0)).trans h0, (hb.cell (World.block_lt_of_cell? w _ h1)).trans h1, (hb.cell (World.block_lt_of_cell? w _ h2)).trans h2⟩
theorem keyS_size (t : ByteArray) (h : rt t = true) : (keyS t).size ≤ 32768 := by
  have h1 := keyB_length _ _ (Nat.le_refl t.data.toList.length) h
  have h2 := right_size h
  rw [list_size] at h1
  show (keyB t.data.toList).toArray.size ≤ _
  rw [List.size_toArray]; omega
theorem keyS_else (t : ByteArray) (x : Sh) (hx : readP t.data.toList = some x) (h : x.op ≠ 86) (h' : x.op ≠ 75) : keyS t = ⟨#[80]⟩ ++ t := by
  unfold keyS
  rw [keyB_else hx h h']
  apply ByteArray.ext; simp
theorem keyS_86 (t k0 k1 : ByteArray) (x : Sh) (hx : readP t.data.toList = some x) (h : x.op = 86) (h0 : k0.data.toList = nth x.kids 0) (h1 : k1.data.toList = nth x.kids 1) : keyS t = ⟨#[87]⟩ ++ keyS k0 ++ keyS k1 := by
  unfold keyS
  rw [keyB_86 hx h, h0, h1]
  apply ByteArray.ext; simp
theorem keyS_75 (t k0 k1 : ByteArray) (x : Sh) (hx : readP t.data.toList = some x) (h : x.op = 75) (h0 : k0.data.toList = nth x.kids 0) (h1 : k1.data.toList = nth x.kids 1) : keyS t = ⟨#[76]⟩ ++ keyS k0 ++ k1 := by
  unfold keyS
  rw [keyB_75 hx h, h0, ← h1]
  apply ByteArray.ext; simp
set_option maxRecDepth 100000 in
set_option maxHeartbeats 2000000 in
theorem key_else (t : ByteArray) (w : World) (x : Sh) (hx : readP t.data.toList = some x) (h : x.op ≠ 86) (h' : x.op ≠ 75) : Calls Tryd.prog 26 #[.string t] w fun e w' => e = .returned (.string (keyS t)) ∧ Below w.heap.size w w' := by
  obtain ⟨l', hl'⟩ := read_head hx
  obtain ⟨h0, hc0⟩ := byte_at t 0 x.op l' hl'
  have h0i : (0 : Int) < (t.size : Int) := by omega
  have hs : t.size ≤ 16384 := by rw [← list_size]; exact (read_parse hx).2
  have c1 := cat_any ⟨#[80]⟩ t (by rw [size1]; omega)
  rw [keyS_else t x hx h h']
  obtain ⟨oz, hoz⟩ : ∃ oz : Int, (x.op.toNat : Int) = oz := ⟨_, rfl⟩
  have ne : ∀ k : UInt8, x.op ≠ k → (x.op.toNat : Int) ≠ (k.toNat : Int) := fun k h h' => h (UInt8.toNat_inj.mp (by omega))
  have b1 : (oz != 86) = true := by rw [bne_iff_ne, ← hoz]; exact ne 86 h
  have b2 : (oz != 75) = true := by rw [bne_iff_ne, ← hoz]; exact ne 75 h'
  clear ne h h' hx hl'
  go_enter Tryd.func26, Tryd.ntmps26
  go_wp2
  go_ret
  exact ⟨rfl, Below.refl _ _⟩
end Go.Proofs.YtlheoipengndnabDoor
