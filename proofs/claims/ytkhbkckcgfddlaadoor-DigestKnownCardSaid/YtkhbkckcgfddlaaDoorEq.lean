/- The digest: sums compared. -/
import Derived.Test.YtkhbkckcgfddlaaDoorRH
import Derived.DeepKeys
namespace Go.Proofs.YtkhbkckcgfddlaaDoor
open Go.RowKit
theorem mapM_all {α β : Type} {f : α → Option β} : ∀ is : List α, (∀ i ∈ is, ∃ y, f i = some y) → ∃ ys, is.mapM f = some ys
  | [], _ => ⟨[], rfl⟩
  | i :: is, h => by
    obtain ⟨y, hy⟩ := h i (by simp)
    obtain ⟨ys, hys⟩ := mapM_all is (fun j hj => h j (by simp [hj]))
    exact ⟨y :: ys, by rw [List.mapM_cons, hy]; simp [hys]⟩
theorem lits5 (x : Nat) (h : x < 256) (d : Nat) : Tryd.prog.keyLits (d + 1) 5 [B x] = some [.int .u8 (x : Int)] := by
  have hw : (Lit.int .u8 (x : Int)).wf = true := by
    have h1 : IntKind.u8.min = 0 := rfl
    have h2 : IntKind.u8.max = 255 := rfl
    simp [Lit.wf, h1, h2]; omega
  simp [Program.keyLits, Tryd.underlying5, B, hw]
theorem cells5 : Tryd.prog.cellsOf 5 = 1 := by kernel_rfl
theorem cells23 : Tryd.prog.cellsOf 23 = 32 := by kernel_rfl
theorem lits23 (l : List Nat) (hl : l.length = 32) (hb : ∀ x ∈ l, x < 256) : ∃ ls, Tryd.prog.keyLits 2 23 (l.map B) = some ls := by
  obtain ⟨ys, hys⟩ := mapM_all (f := fun i => Tryd.prog.keyLits 1 5 (((l.map B).drop (i * Tryd.prog.cellsOf 5)).take (Tryd.prog.cellsOf 5))) (List.range 32) (fun i hi => by
    have hi32 : i < 32 := List.mem_range.1 hi
    rw [cells5, Nat.mul_one]
    have : ((l.map B).drop i).take 1 = [B (l[i]'(by omega))] := by
      rw [List.drop_eq_getElem_cons (by simp; omega)]; simp
    rw [this]
    exact ⟨_, lits5 _ (hb _ (List.getElem_mem _)) 0⟩)
  refine ⟨ys.flatten, ?_⟩
  have hu := Tryd.underlying23
  unfold Program.keyLits
  simp only [hu, cells23, List.length_map, hl, if_true]
  rw [hys]; rfl
theorem eql_self (l : List Nat) (hl : l.length = 32) (hb : ∀ x ∈ l, x < 256) (w : World) : (Op.equalIn 10000 23 (.agg (Bytes l)) (.agg (Bytes l))).run Tryd.prog w = .ok true w := by
  obtain ⟨ls, hls⟩ := lits23 l hl hb
  have hf : (Value.agg (Bytes l)).formed Tryd.prog 23 = true := by
    simp [Value.formed, Tryd.underlying23, cells23, Bytes, hl]
  have hk : Tryd.prog.keyTypeAt 2 23 = true := by kernel_rfl
  have hc : (Value.agg (Bytes l)).cells.toList = l.map B := by simp [Value.cells, Bytes]
  obtain ⟨r, hr, hiff⟩ := run_equalIn_deep (P := Tryd.prog) 9998 2 23 hk w 2 2 (.agg (Bytes l)) (.agg (Bytes l)) ls ls hf hf (by rw [hc]; exact hls) (by rw [hc]; exact hls)
  rw [hiff.2 rfl] at hr
  exact hr
theorem eql_sha (p : List Nat) (t : World) : (binOp .eql 23 (.agg (Bytes (sha p))) (.agg (Bytes (sha p)))).run Tryd.prog t = .ok (.bool true) t := by
  rw [run_eql_struct, eql_self _ (sha_length p) (sha_byte p)]; rfl
theorem neq_sha (p : List Nat) (t : World) : (binOp .neq 23 (.agg (Bytes (sha p))) (.agg (Bytes (sha p)))).run Tryd.prog t = .ok (.bool false) t := by
  rw [run_neq_struct, eql_self _ (sha_length p) (sha_byte p)]; rfl
/-- new bytes are taken in -/
theorem write_new (sb : Nat) (b xs : List Nat) (fr : Nat × Nat) (w : World) (hS : StAt w sb b) (ht : TabAt w) (hl : b.length ≤ 200000) (hx : xs.length ≤ 200000) :
    Calls Tryd.prog 14 #[.pointer (some ⟨sb, 0, none⟩), .slice (some ⟨w.heap.size, 0, none⟩) xs.length xs.length] (w.alloc (.cells (Bytes xs) 5 fr)) fun e w' => e = .returned (.tuple #[]) ∧ StAt w' sb (b ++ xs) ∧ Fr (fun k => k = sb) w w' := by
  have hb := below_new' w (.cells (Bytes xs) 5 fr)
  have h3 : sb < w.heap.size := by obtain ⟨_, _, _, h⟩ := hS.row; exact lt_of_heap h
  have := write_any sb b xs (some ⟨w.heap.size, 0, none⟩) xs.length (w.alloc (.cells (Bytes xs) 5 fr)) (hS.below hb) (.inr ⟨_, 0, rfl, fun j y hj => by
    rw [Nat.zero_add]; exact bytes_cell (heap_alloc_at w _) hj⟩) (fun _ g o e => by cases e; omega) (Nat.le_refl _) (ht.below hb) (by omega)
  exact this.mono fun e w' ⟨h1, h2, h3⟩ => ⟨h1, h2, (Fr.below (S := fun k => k = sb) hb).trans h3⟩
theorem new_bytes (w : World) (xs : List Nat) (fr : Nat × Nat) : BytesAt (w.alloc (.cells (Bytes xs) 5 fr)) (some ⟨w.heap.size, 0, none⟩) xs := .inr ⟨_, 0, rfl, fun j y hj => by rw [Nat.zero_add]; exact bytes_cell (heap_alloc_at w _) hj⟩
theorem abc_hex : (⟨(hexOf (sha [97, 98, 99])).toArray⟩ : ByteArray) = ⟨#[98, 97, 55, 56, 49, 54, 98, 102, 56, 102, 48, 49, 99, 102, 101, 97, 52, 49, 52, 49, 52, 48, 100, 101, 53, 100, 97, 101, 50, 50, 50, 51, 98, 48, 48, 51, 54, 49, 97, 51, 57, 54, 49, 55, 55, 97, 57, 99, 98, 52, 49, 48, 102, 102, 54, 49, 102, 50, 48, 48, 49, 53, 97, 100]⟩ := by rw [abc_sum]; rfl
end Go.Proofs.YtkhbkckcgfddlaaDoor
