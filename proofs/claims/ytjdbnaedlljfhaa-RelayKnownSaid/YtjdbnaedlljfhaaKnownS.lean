/- relay: facts of the examples: each way's row, a hundred and one bytes (printed by gen/gr_knownw.py). -/
import Derived.Test.YtjdbnaedlljfhaaKnownR
import Derived.Laws.MakeOwn
import Derived.Laws.BytesArg
import Derived.Laws.Rows
namespace Go.Proofs.Ytjdbnaedlljfhaa
set_option linter.unusedVariables false
open Go.RowKit
set_option maxRecDepth 100000
def wantA : Array Value := #[.int .i64 240, .int .i64 241, .int .i64 241, .int .i64 0, .int .i64 233, .int .i64 233, .int .i64 242, .int .i64 40, .int .i64 2, .int .i64 2, .int .i64 2, .int .i64 240, .int .i64 0, .int .i64 233, .int .i64 241]
theorem way_at (i : Nat) (h : i < 15) : ∃ (c f : ByteArray) (stamp base rate delta mn mx : Int) (off : Bool) (ia ie oa oe ht mg x : Int), (waysA[i * 15]? = some (.string c) ∧ waysA[i * 15 + 1]? = some (.string f) ∧ waysA[i * 15 + 2]? = some (.int .i64 stamp) ∧ waysA[i * 15 + 3]? = some (.int .i64 base) ∧ waysA[i * 15 + 4]? = some (.int .i64 rate) ∧ waysA[i * 15 + 5]? = some (.int .i64 delta) ∧ waysA[i * 15 + 6]? = some (.int .i64 mn) ∧ waysA[i * 15 + 7]? = some (.int .i64 mx) ∧ waysA[i * 15 + 8]? = some (.bool off) ∧ waysA[i * 15 + 9]? = some (.int .i64 ia) ∧ waysA[i * 15 + 10]? = some (.int .i64 ie) ∧ waysA[i * 15 + 11]? = some (.int .i64 oa) ∧ waysA[i * 15 + 12]? = some (.int .i64 oe) ∧ waysA[i * 15 + 13]? = some (.int .i64 ht) ∧ waysA[i * 15 + 14]? = some (.int .i64 mg) ∧ wantA[i]? = some (.int .i64 x)) ∧ checkE base rate delta mn mx off ia ie oa oe ht mg = x := by
  match i, h with
  | 0, _ => exact ⟨⟨#[]⟩, ⟨#[]⟩, 0, 10, 1000, 9, 100, 100000, false, 5014, 49, 5000, 40, 5, 2, 240, ⟨by kernel_rfl, by kernel_rfl, by kernel_rfl, by kernel_rfl, by kernel_rfl, by kernel_rfl, by kernel_rfl, by kernel_rfl, by kernel_rfl, by kernel_rfl, by kernel_rfl, by kernel_rfl, by kernel_rfl, by kernel_rfl, by kernel_rfl, by kernel_rfl⟩, way_0⟩
  | 1, _ => exact ⟨⟨#[]⟩, ⟨#[]⟩, 0, 10, 1000, 9, 100, 100000, false, 5015, 48, 5000, 40, 5, 2, 241, ⟨by kernel_rfl, by kernel_rfl, by kernel_rfl, by kernel_rfl, by kernel_rfl, by kernel_rfl, by kernel_rfl, by kernel_rfl, by kernel_rfl, by kernel_rfl, by kernel_rfl, by kernel_rfl, by kernel_rfl, by kernel_rfl, by kernel_rfl, by kernel_rfl⟩, way_1⟩
  | 2, _ => exact ⟨⟨#[]⟩, ⟨#[]⟩, 0, 10, 1000, 9, 100, 100000, false, 5015, 49, 5000, 7, 5, 2, 241, ⟨by kernel_rfl, by kernel_rfl, by kernel_rfl, by kernel_rfl, by kernel_rfl, by kernel_rfl, by kernel_rfl, by kernel_rfl, by kernel_rfl, by kernel_rfl, by kernel_rfl, by kernel_rfl, by kernel_rfl, by kernel_rfl, by kernel_rfl, by kernel_rfl⟩, way_2⟩
  | 3, _ => exact ⟨⟨#[]⟩, ⟨#[]⟩, 0, 10, 1000, 9, 100, 100000, false, 5015, 49, 5000, 8, 5, 2, 0, ⟨by kernel_rfl, by kernel_rfl, by kernel_rfl, by kernel_rfl, by kernel_rfl, by kernel_rfl, by kernel_rfl, by kernel_rfl, by kernel_rfl, by kernel_rfl, by kernel_rfl, by kernel_rfl, by kernel_rfl, by kernel_rfl, by kernel_rfl, by kernel_rfl⟩, way_3⟩
  | 4, _ => exact ⟨⟨#[]⟩, ⟨#[]⟩, 0, 10, 1000, 9, 100, 100000, false, 5015, 49, 99, 40, 5, 2, 233, ⟨by kernel_rfl, by kernel_rfl, by kernel_rfl, by kernel_rfl, by kernel_rfl, by kernel_rfl, by kernel_rfl, by kernel_rfl, by kernel_rfl, by kernel_rfl, by kernel_rfl, by kernel_rfl, by kernel_rfl, by kernel_rfl, by kernel_rfl, by kernel_rfl⟩, way_4⟩
  | 5, _ => exact ⟨⟨#[]⟩, ⟨#[]⟩, 0, 10, 1000, 9, 100, 100000, false, 900000, 49, 100001, 40, 5, 2, 233, ⟨by kernel_rfl, by kernel_rfl, by kernel_rfl, by kernel_rfl, by kernel_rfl, by kernel_rfl, by kernel_rfl, by kernel_rfl, by kernel_rfl, by kernel_rfl, by kernel_rfl, by kernel_rfl, by kernel_rfl, by kernel_rfl, by kernel_rfl, by kernel_rfl⟩, way_5⟩
  | 6, _ => exact ⟨⟨#[]⟩, ⟨#[]⟩, 0, 10, 1000, 9, 100, 100000, true, 5015, 49, 5000, 40, 5, 2, 242, ⟨by kernel_rfl, by kernel_rfl, by kernel_rfl, by kernel_rfl, by kernel_rfl, by kernel_rfl, by kernel_rfl, by kernel_rfl, by kernel_rfl, by kernel_rfl, by kernel_rfl, by kernel_rfl, by kernel_rfl, by kernel_rfl, by kernel_rfl, by kernel_rfl⟩, way_6⟩
  | 7, _ => exact ⟨⟨#[]⟩, ⟨#[]⟩, 0, 10, 1000, 9, 100, 100000, false, (-1), 49, 5000, 40, 5, 2, 40, ⟨by kernel_rfl, by kernel_rfl, by kernel_rfl, by kernel_rfl, by kernel_rfl, by kernel_rfl, by kernel_rfl, by kernel_rfl, by kernel_rfl, by kernel_rfl, by kernel_rfl, by kernel_rfl, by kernel_rfl, by kernel_rfl, by kernel_rfl, by kernel_rfl⟩, way_7⟩
  | 8, _ => exact ⟨⟨#[]⟩, ⟨#[]⟩, 0, 10, 1000, 9, 100, 100000, false, 5015, 49, 5000, 40, (-1), 2, 2, ⟨by kernel_rfl, by kernel_rfl, by kernel_rfl, by kernel_rfl, by kernel_rfl, by kernel_rfl, by kernel_rfl, by kernel_rfl, by kernel_rfl, by kernel_rfl, by kernel_rfl, by kernel_rfl, by kernel_rfl, by kernel_rfl, by kernel_rfl, by kernel_rfl⟩, way_8⟩
  | 9, _ => exact ⟨⟨#[]⟩, ⟨#[]⟩, 0, 10, 1000, 9, 100, 100000, false, 5015, 2147483648, 5000, 40, 5, 2, 2, ⟨by kernel_rfl, by kernel_rfl, by kernel_rfl, by kernel_rfl, by kernel_rfl, by kernel_rfl, by kernel_rfl, by kernel_rfl, by kernel_rfl, by kernel_rfl, by kernel_rfl, by kernel_rfl, by kernel_rfl, by kernel_rfl, by kernel_rfl, by kernel_rfl⟩, way_9⟩
  | 10, _ => exact ⟨⟨#[]⟩, ⟨#[]⟩, 0, 10, 1000, (-1), 100, 100000, false, 5015, 49, 5000, 40, 5, 2, 2, ⟨by kernel_rfl, by kernel_rfl, by kernel_rfl, by kernel_rfl, by kernel_rfl, by kernel_rfl, by kernel_rfl, by kernel_rfl, by kernel_rfl, by kernel_rfl, by kernel_rfl, by kernel_rfl, by kernel_rfl, by kernel_rfl, by kernel_rfl, by kernel_rfl⟩, way_10⟩
  | 11, _ => exact ⟨⟨#[]⟩, ⟨#[]⟩, 0, (-1), 1000, 9, 100, 100000, false, 5015, 49, 5000, 40, 5, 2, 240, ⟨by kernel_rfl, by kernel_rfl, by kernel_rfl, by kernel_rfl, by kernel_rfl, by kernel_rfl, by kernel_rfl, by kernel_rfl, by kernel_rfl, by kernel_rfl, by kernel_rfl, by kernel_rfl, by kernel_rfl, by kernel_rfl, by kernel_rfl, by kernel_rfl⟩, way_11⟩
  | 12, _ => exact ⟨⟨#[]⟩, ⟨#[]⟩, 0, 10, 1000, 9, 100, 100000, false, 110, 49, 100, 40, 5, 2, 0, ⟨by kernel_rfl, by kernel_rfl, by kernel_rfl, by kernel_rfl, by kernel_rfl, by kernel_rfl, by kernel_rfl, by kernel_rfl, by kernel_rfl, by kernel_rfl, by kernel_rfl, by kernel_rfl, by kernel_rfl, by kernel_rfl, by kernel_rfl, by kernel_rfl⟩, way_12⟩
  | 13, _ => exact ⟨⟨#[]⟩, ⟨#[]⟩, 0, 0, 0, 0, 0, 0, false, 1, 49, 0, 40, 5, 2, 233, ⟨by kernel_rfl, by kernel_rfl, by kernel_rfl, by kernel_rfl, by kernel_rfl, by kernel_rfl, by kernel_rfl, by kernel_rfl, by kernel_rfl, by kernel_rfl, by kernel_rfl, by kernel_rfl, by kernel_rfl, by kernel_rfl, by kernel_rfl, by kernel_rfl⟩, way_13⟩
  | 14, _ => exact ⟨⟨#[]⟩, ⟨#[]⟩, 0, 10, 1000, 9, 100, 100000, false, 5015, 2147483647, 5000, 2147483647, 2147483647, 2147483647, 241, ⟨by kernel_rfl, by kernel_rfl, by kernel_rfl, by kernel_rfl, by kernel_rfl, by kernel_rfl, by kernel_rfl, by kernel_rfl, by kernel_rfl, by kernel_rfl, by kernel_rfl, by kernel_rfl, by kernel_rfl, by kernel_rfl, by kernel_rfl, by kernel_rfl⟩, way_14⟩
def gotA : Array Value := #[.int .i64 0, .int .i64 6, .int .i64 6, .int .i64 0, .int .i64 2, .int .i64 2, .int .i64 2, .int .i64 0]
theorem got_at (i : Nat) (h : i < 8) : ∃ x, gotA[i]? = some (.int .i64 x) := by
  match i, h with
  | 0, _ => exact ⟨0, by kernel_rfl⟩
  | 1, _ => exact ⟨6, by kernel_rfl⟩
  | 2, _ => exact ⟨6, by kernel_rfl⟩
  | 3, _ => exact ⟨0, by kernel_rfl⟩
  | 4, _ => exact ⟨2, by kernel_rfl⟩
  | 5, _ => exact ⟨2, by kernel_rfl⟩
  | 6, _ => exact ⟨2, by kernel_rfl⟩
  | 7, _ => exact ⟨0, by kernel_rfl⟩
theorem alloc_at' (w : World) (o : Obj) (k : Nat) (h : k = w.heap.size) : (w.alloc o).heap[k]? = some o := h ▸ heap_alloc_at w o
theorem Try.info5 : (Try.prog.info? 5).map (fun i => (i.zero, i.size, i.bytes)) = some (some (.int .u8 0), 1, 1) := by kernel_rfl
/-- a hundred and one bytes, made and turned into a string -/
theorem make_101 : ∃ (z : Array Value) (b : ByteArray), b.size = 101 ∧ (∀ W : World, (Instr.makeSlice 66 (.int .i64 101) (.int .i64 101)).run Try.prog W = .ok (.slice (some ⟨W.heap.size, 0, none⟩) 101 101) (W.alloc (.cells z 5))) ∧ ∀ (W : World) (g : Nat), W.heap[g]? = some (.cells z 5 (0, 0)) → (convert 66 9 (.slice (some ⟨g, 0, none⟩) 101 101)).run Try.prog W = .ok (.string b) W := by
  obtain ⟨i0, hi0, hz0, hz1, hz2⟩ := info_parts Try.info5
  refine ⟨madeCells (Value.int .u8 0).cells 101, strOfNums (List.replicate 101 0), by rw [strOfNums_size]; rfl, fun W => ?_, fun W g hg => ?_⟩
  · have := run_makeSlice (P := Try.prog) W 66 5 i0 (.int .u8 0) Try.underlying66 hi0 hz0 .i64 .i64 101 101 (by omega) (by omega) (by rw [hz1]; decide) (by rw [hz2]; decide) (by decide)
    rw [hz1] at this
    exact this
  · refine run_convert_bytes_arg W 66 5 Try.underlying66 Try.underlying5 g 0 101 101 (List.replicate 101 0) rfl (fun i hi => ?_) 9 Try.underlying9
    have e : (List.replicate 101 (0 : Int)).getD i 0 = 0 := by
      rw [List.getD_eq_getElem?_getD]
      cases h : (List.replicate 101 (0 : Int))[i]? with
      | none => rfl
      | some x => exact (List.eq_of_mem_replicate (List.mem_of_getElem? h))
    rw [cell_of_row _ _ _ _ _ _ hg, Nat.zero_add, e]
    have hc : (Value.int IntKind.u8 0).cells = #[Value.int IntKind.u8 0] := rfl
    rw [hc]
    simp [madeCells, hi, Nat.mod_one]
end Go.Proofs.Ytjdbnaedlljfhaa
