/- The digest's state: New, Write. -/
import Derived.Test.YtkhbkckcgfddlaaDoorB
import Derived.Handy
namespace Go.Proofs.YtkhbkckcgfddlaaDoor
open Go.RowKit
attribute [local go_sem] run_xor run_and run_or run_add run_not
attribute [local go_sem] match_U match_B run_store_U run_store_B conv_b shl_24 shl_16 shl_8 shr_3 shr_10
def stCells (v : Eight) (wait : List Nat) (n : Nat) : List Value := v.list.map U ++ (wait.map B ++ [.int .u64 (n : Int)])
/-- a state that has taken these bytes in -/
structure StAt (w : World) (sb : Nat) (b : List Nat) : Prop where
  row : ∃ wait : List Nat, wait.length = 64 ∧ wait.take (b.length % 64) = tail64 b ∧ w.heap[sb]? = some (.cells (stCells (full b) wait b.length).toArray 45 (0, 0))
  pos : 0 < sb
theorem StAt.fr {w w' : World} {sb : Nat} {b : List Nat} {S : Nat → Prop} (h : StAt w sb b) (hf : Fr S w w') (hn : ¬ S sb) : StAt w' sb b := by
  obtain ⟨wait, h1, h2, h3⟩ := h.row
  exact ⟨⟨wait, h1, h2, hf.at_ hn h3⟩, h.pos⟩
theorem StAt.below {w w' : World} {sb : Nat} {b : List Nat} (h : StAt w sb b) (hb : Below w.heap.size w w') : StAt w' sb b := h.fr (Fr.below (S := fun _ => False) hb) (fun x => x)
theorem TabAt.fr {w w' : World} {S : Nat → Prop} (h : TabAt w) (hf : Fr S w w') (hn : ¬ S 0) : TabAt w' := fun i k hk => hf.cell hn (h i k hk)
theorem TabAt.below {w w' : World} (h : TabAt w) (hb : Below w.heap.size w w') : TabAt w' := h.fr (Fr.below (S := fun _ => False) hb) (fun x => x)
theorem TabAt.pos {w : World} (h : TabAt w) : 0 < w.heap.size := World.block_lt_of_cell? w _ (h 0 _ rfl)
/-- bytes lie there -/
def BytesAt (w : World) (pa : Option Addr) (p : List Nat) : Prop := p = [] ∨ ∃ g o, pa = some ⟨g, o, none⟩ ∧ ∀ (j x : Nat), p[j]? = some x → w.cell? ⟨g, o + j, none⟩ = some (B x)
theorem first_val : Value.agg #[.int .u32 1779033703, .int .u32 3144134277, .int .u32 1013904242, .int .u32 2773480762, .int .u32 1359893119, .int .u32 2600822924, .int .u32 528734635, .int .u32 1541459225] = .agg #[U first8.a, U first8.b, U first8.c, U first8.d, U first8.e, U first8.f, U first8.g, U first8.h] := by kernel_rfl
theorem first_any (w : World) : Calls Tryd.prog 17 #[] w fun e w' => e = .returned (.agg #[U first8.a, U first8.b, U first8.c, U first8.d, U first8.e, U first8.f, U first8.g, U first8.h]) ∧ Below w.heap.size w w' := by
  rw [← first_val]
  go_enter Tryd.func17, Tryd.ntmps17
  go_wp2
  exact bodyPost_ret (v := .agg #[.int .u32 1779033703, .int .u32 3144134277, .int .u32 1013904242, .int .u32 2773480762, .int .u32 1359893119, .int .u32 2600822924, .int .u32 528734635, .int .u32 1541459225]) (by simp [results, Tryd.results17, go_sem]) rfl ⟨rfl, (by (repeat' (first | (with_reducible exact Below.refl _ _) | (with_reducible refine Below.alloc ?_ ?_ _) | (with_reducible refine Below.drew ?_) | (with_reducible refine Below.setCell ?_ ?_ _) | (simp; done) | (simp; omega))))⟩
set_option maxRecDepth 100000 in
theorem new_any (w : World) (hw : 0 < w.heap.size) : Calls Tryd.prog 12 #[] w fun e w' => ∃ sb, e = .returned (.pointer (some ⟨sb, 0, none⟩)) ∧ StAt w' sb [] ∧ Below w.heap.size w w' ∧ w.heap.size ≤ sb := by
  have hz : ∀ W : World, (zeroValue 45).run Tryd.prog W = .ok (.agg #[.int .u32 0, .int .u32 0, .int .u32 0, .int .u32 0, .int .u32 0, .int .u32 0, .int .u32 0, .int .u32 0, .int .u8 0, .int .u8 0, .int .u8 0, .int .u8 0, .int .u8 0, .int .u8 0, .int .u8 0, .int .u8 0, .int .u8 0, .int .u8 0, .int .u8 0, .int .u8 0, .int .u8 0, .int .u8 0, .int .u8 0, .int .u8 0, .int .u8 0, .int .u8 0, .int .u8 0, .int .u8 0, .int .u8 0, .int .u8 0, .int .u8 0, .int .u8 0, .int .u8 0, .int .u8 0, .int .u8 0, .int .u8 0, .int .u8 0, .int .u8 0, .int .u8 0, .int .u8 0, .int .u8 0, .int .u8 0, .int .u8 0, .int .u8 0, .int .u8 0, .int .u8 0, .int .u8 0, .int .u8 0, .int .u8 0, .int .u8 0, .int .u8 0, .int .u8 0, .int .u8 0, .int .u8 0, .int .u8 0, .int .u8 0, .int .u8 0, .int .u8 0, .int .u8 0, .int .u8 0, .int .u8 0, .int .u8 0, .int .u8 0, .int .u8 0, .int .u8 0, .int .u8 0, .int .u8 0, .int .u8 0, .int .u8 0, .int .u8 0, .int .u8 0, .int .u8 0, .int .u64 0]) W := fun W => by kernel_rfl
  go_enter Tryd.func12, Tryd.ntmps12
  go_wp2_with (go_at_call 17; (with_reducible refine Calls.mono (first_any _) ?_); rintro e w1 ⟨rfl, hb1⟩; have z1 := hb1.size)
  go_ret
  exact ⟨w1.heap.size, rfl, ⟨⟨List.replicate 64 0, rfl, rfl, heap_alloc_at w1 _⟩, by omega⟩, hb1.trans ((below_new' w1 _).mono z1), z1⟩
end Go.Proofs.YtkhbkckcgfddlaaDoor
