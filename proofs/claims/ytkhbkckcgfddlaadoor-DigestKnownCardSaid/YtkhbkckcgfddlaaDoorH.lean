/- The digest in digits: the program's. -/
import Derived.Test.YtkhbkckcgfddlaaDoorRE
import Derived.Lib.ConvBytes
import Derived.Laws.IdiomStrings
import Derived.Laws.BitsLemmas
namespace Go.Proofs.YtkhbkckcgfddlaaDoor
open Go.RowKit
attribute [local go_sem] match_U match_B run_store_U run_store_B conv_u
def dgI (i : Int) : Int := if i < 10 then 48 + i else 87 + i
theorem dgI_eq (k : Nat) (h : k < 16) : dgI (k : Int) = ((digit k).toNat : Int) := by
  have : ∀ k : Fin 16, dgI (k.val : Int) = ((digit k.val).toNat : Int) := by decide +kernel
  exact this ⟨k, h⟩
theorem run_index_digits (w : World) (k : IntKind) (i : Int) (h0 : 0 ≤ i) (h1 : i ≤ 15) : (Instr.index 9 (.string ⟨#[48, 49, 50, 51, 52, 53, 54, 55, 56, 57, 97, 98, 99, 100, 101, 102]⟩) (.int k i)).run Tryd.prog w = .ok (.int .u8 (dgI i)) w := by
  obtain ⟨n, rfl⟩ := Int.eq_ofNat_of_zero_le h0
  have hn : n < 16 := by omega
  rw [run_index_string w 9 _ k _ Tryd.underlying9, dif_pos ⟨h0, by show (n : Int) < 16; omega⟩]
  have : ∀ k : Fin 16, (((⟨#[48, 49, 50, 51, 52, 53, 54, 55, 56, 57, 97, 98, 99, 100, 101, 102]⟩ : ByteArray)[k.val]'(by exact k.isLt)).toNat : Int) = dgI (k.val : Int) := by decide +kernel
  exact congrArg (fun v => Result.ok (Value.int .u8 v) w) (this ⟨n, hn⟩)
theorem run_index_bytes (w : World) (l : List Nat) (i x : Nat) (hl : l.length = 32) (hx : l[i]? = some x) : (Instr.index 23 (.agg (Bytes l)) (.int .i64 (i : Int))).run Tryd.prog w = .ok (B x) w := by
  have hi : i < 32 := by rw [← hl]; exact (List.getElem?_eq_some_iff.1 hx).1
  have h32 : (i : Int) < 32 := by omega
  obtain ⟨i0, hi0, hz0, hz1, hz2⟩ := info_parts info5
  have hg : (Bytes l)[i]? = some (B x) := Bytes_at hx
  simp [Instr.index, run_underlying Tryd.underlying23, asIntOf, sizeOf, typeInfo, hi0, hz1, part, hg, go_sem]
  intro h; omega
theorem hexOf_cons (x : Nat) (l : List Nat) : hexOf (x :: l) = digit (x / 16) :: digit (x % 16) :: hexOf l := rfl
theorem hexOf_length : ∀ l : List Nat, (hexOf l).length = 2 * l.length
  | [] => rfl
  | x :: l => by rw [hexOf_cons, List.length_cons, List.length_cons, hexOf_length l, List.length_cons]; omega
theorem hexOf_append : ∀ l m : List Nat, hexOf (l ++ m) = hexOf l ++ hexOf m
  | [], _ => rfl
  | x :: l, m => by rw [List.cons_append, hexOf_cons, hexOf_append l m, hexOf_cons]; rfl
theorem sha_byte (p : List Nat) : ∀ x ∈ sha p, x < 256 := by
  intro x hx
  unfold sha sumOf at hx
  obtain ⟨y, _, hy⟩ := List.mem_flatMap.1 hx
  simp only [bytes4, List.mem_cons, List.not_mem_nil, or_false] at hy
  rcases hy with h | h | h | h <;> (rw [h]; exact Nat.mod_lt _ (by decide))
theorem below_set2 {B : Nat} {w w' : World} (h : Below B w w') (b i j : Nat) (u v : Value) (hb : B ≤ b) : Below B w ((w'.setCell ⟨b, i, none⟩ u).setCell ⟨b, j, none⟩ v) := (h.setCell (p := ⟨b, i, none⟩) hb u).setCell (p := ⟨b, j, none⟩) hb v
theorem shr4_B (x : Nat) (_h : x < 256) (w : World) : (binOp .shr 5 (B x) (.int .u64 4)).run Tryd.prog w = .ok (.int .u8 ((x : Int) / 16)) w := by
  have h1 : (Op.shift .shr .u8 (x : Int) .u64 4).run Tryd.prog w = .ok (.int .u8 ((x : Int) / 16)) w := by
    simp only [Op.shift, if_neg (show ¬ (4 : Int) < 0 by omega), Sem.run_pure]
    refine congrArg (fun z => Result.ok (Value.int .u8 z) w) ?_
    show Int.fdiv (x : Int) 16 = _
    rw [Int.fdiv_eq_ediv_of_nonneg _ (by decide)]
  simpa [binOp, B] using h1
theorem and15_B (x : Nat) (h : x < 256) (w : World) : (binOp .and 5 (B x) (.int .u8 15)).run Tryd.prog w = .ok (.int .u8 ((x : Int) % 16)) w := by
  have h1 : (Op.intBits .and .u8 (x : Int) 15).run Tryd.prog w = .ok (.int .u8 ((x : Int) % 16)) w := by
    have := u8_and15 (x : Int) (by omega) (by omega)
    rw [← this]; rfl
  simpa [binOp, B] using h1
/-- the digits so far, as numbers -/
def hexN (l : List Nat) : List Nat := (hexOf l).map (·.toNat)
theorem hexN_next {l : List Nat} {i x : Nat} (h : l[i]? = some x) : hexN (l.take (i + 1)) = hexN (l.take i) ++ [(digit (x / 16)).toNat] ++ [(digit (x % 16)).toNat] := by
  unfold hexN
  rw [take_nextB h, hexOf_append, List.map_append, List.append_assoc]; rfl
theorem hexN_length (l : List Nat) : (hexN l).length = 2 * l.length := by unfold hexN; rw [List.length_map, hexOf_length]
attribute [local go_sem high] run_index_digits
set_option maxRecDepth 100000 in
set_option maxHeartbeats 4000000 in
theorem hex_any (pa : Option Addr) (p : List Nat) (cap : Nat) (w : World) (hp : BytesAt w pa p) (hc : p.length ≤ cap) (ht : TabAt w) (hl : p.length ≤ 100000) :
    Calls Tryd.prog 9 #[.slice pa p.length cap] w fun e w' => e = .returned (.string ⟨(hexOf (sha p)).toArray⟩) ∧ Below w.heap.size w w' := by
  have HP := Lib.hid hp
  have HT := Lib.hid ht
  have HL := Lib.hid hl
  clear hp ht hl
  go_enter Tryd.func9, Tryd.ntmps9
  go_upto_region 2 with fail
  have R0 := Lib.hid (heap_alloc_at w (.cells (Bytes (PB [] 64)) 38))
  have B0 := Lib.hid (below_new' w (.cells (Bytes (PB [] 64)) 38))
  have T0 := Lib.hid (HT.out.below B0.out)
  have P0 := Lib.hid (HP.out.below B0.out)
  have e0 : w.alloc (.cells #[.int .u8 0, .int .u8 0, .int .u8 0, .int .u8 0, .int .u8 0, .int .u8 0, .int .u8 0, .int .u8 0, .int .u8 0, .int .u8 0, .int .u8 0, .int .u8 0, .int .u8 0, .int .u8 0, .int .u8 0, .int .u8 0, .int .u8 0, .int .u8 0, .int .u8 0, .int .u8 0, .int .u8 0, .int .u8 0, .int .u8 0, .int .u8 0, .int .u8 0, .int .u8 0, .int .u8 0, .int .u8 0, .int .u8 0, .int .u8 0, .int .u8 0, .int .u8 0, .int .u8 0, .int .u8 0, .int .u8 0, .int .u8 0, .int .u8 0, .int .u8 0, .int .u8 0, .int .u8 0, .int .u8 0, .int .u8 0, .int .u8 0, .int .u8 0, .int .u8 0, .int .u8 0, .int .u8 0, .int .u8 0, .int .u8 0, .int .u8 0, .int .u8 0, .int .u8 0, .int .u8 0, .int .u8 0, .int .u8 0, .int .u8 0, .int .u8 0, .int .u8 0, .int .u8 0, .int .u8 0, .int .u8 0, .int .u8 0, .int .u8 0, .int .u8 0] 38) = w.alloc (.cells (Bytes (PB [] 64)) 38) := rfl
  rw [e0]
  clear e0
  have hr0' : w.heap.size < (w.alloc (.cells (Bytes (PB [] 64)) 38)).heap.size := by simp
  generalize w.alloc (.cells (Bytes (PB [] 64)) 38) = w0 at R0 B0 T0 P0 hr0' ⊢
  obtain ⟨r0, hr0⟩ : ∃ r0, w.heap.size = r0 := ⟨_, rfl⟩
  have HR0 := Lib.hid hr0
  rw [hr0] at R0 hr0' ⊢
  clear hr0
  go_wp2_with (go_at_call 7; (with_reducible refine Calls.mono (dsum_any pa p cap w0 P0.out hc T0.out HL.out) ?_); rintro e w1 ⟨rfl, hb1⟩; have B1 := Lib.hid hb1; clear hb1)
  have R1 : Hid (w1.heap[r0]? = some (.cells (Bytes (PB [] 64)) 38 (0, 0))) := (B1.out.block _ (lt_of_heap R0.out)).trans R0.out
  have BW1 : Hid (Below r0 w w1) := by have h := B0.out.trans (B1.out.mono B0.out.size); rw [HR0.out] at h; exact h
  have hr1 : r0 ≤ w1.heap.size := by have := lt_of_heap R1.out; omega
  go_loopw [8] (fun iv wr => ∃ i : Nat, i ≤ 32 ∧ iv = .int .i64 i ∧ Hid (wr.heap[r0]? = some (.cells (Bytes (PB (hexN ((sha p).take i)) 64)) 38 (0, 0))) ∧ Hid (Below r0 w1 wr)) (fun iv _ => 32 - (intOf iv).toNat)
  case atStart => exact ⟨0, by omega, rfl, R1.out, Below.refl _ _⟩
  case round =>
    obtain ⟨i, hi, rfl, hW, hB⟩ := hrel
    by_cases hlt : i < 32
    · obtain ⟨x, hx⟩ : ∃ x, (sha p)[i]? = some x := ⟨_, List.getElem?_eq_getElem (show i < 32 by omega)⟩
      have hx256 : x < 256 := sha_byte p x (List.mem_of_getElem? hx)
      have hix : ∀ W : World, (Instr.index 23 (.agg (Bytes (sha p))) (.int .i64 (i : Int))).run Tryd.prog W = .ok (B x) W := fun W => run_index_bytes W (sha p) i x (sha_length p) hx
      have HN := Lib.hid (hexN_next hx)
      have htl : (hexN ((sha p).take i)).length = 2 * i := by rw [hexN_length, List.length_take, sha_length]; omega
      have c0 := pb_next hW.out htl (by omega)
      have c1 : wr.cell? ⟨r0, 2 * i + 1, none⟩ = some (B 0) := bytes_cell hW.out (by unfold PB; rw [List.getElem?_append_right (by omega), List.getElem?_replicate, if_pos (by omega)])
      have HTL := Lib.hid htl
      have fz := fun j => frozen_of_row wr r0 j _ 38 hW.out
      have hii : (i : Int) < 32 := by omega
      have hxi : (x : Int) < 256 := by omega
      have hq1 : 0 ≤ (x : Int) / 16 := by omega
      have hq2 : (x : Int) / 16 ≤ 15 := by omega
      have hq3 : 0 ≤ (x : Int) % 16 := by omega
      have hq4 : (x : Int) % 16 ≤ 15 := by omega
      have E1 : Hid (dgI ((x : Int) / 16) = ((digit (x / 16)).toNat : Int)) := by show _ = _; rw [← dgI_eq _ (by omega)]; congr 1
      have E2 : Hid (dgI ((x : Int) % 16) = ((digit (x % 16)).toNat : Int)) := by show _ = _; rw [← dgI_eq _ (by omega)]; congr 1
      have hsh := shr4_B x hx256
      have han := and15_B x hx256
      clear hx htl hx256
      go_upto_region 5 with fail
      go_region
      go_wp2_with fail
      go_roundw
      case rel =>
        refine ⟨i + 1, by omega, by go_num, ?_, ?_⟩
        · rw [HN.out]
          have h1 := pb_store (digit (x / 16)).toNat hW.out HTL.out (by omega)
          have h2 := pb_store (digit (x % 16)).toNat h1 (i := 2 * i + 1) (by rw [List.length_append, HTL.out]; rfl) (by omega)
          rw [B, B, ← E1.out, ← E2.out] at h2
          exact h2
        · exact below_set2 hB.out.drew _ _ _ _ _ (Nat.le_refl _)
      case measure => simp [intOf]; omega
    · obtain rfl : i = 32 := by omega
      have hcv : (convert 22 9 (.slice (some ⟨r0, 0, none⟩) 64 64)).run Tryd.prog wr = .ok (.string ⟨(hexOf (sha p)).toArray⟩) wr := by
        have hlen : (hexOf (sha p)).length = 64 := by rw [hexOf_length, sha_length]
        have h := run_convert_bytes_back (P := Tryd.prog) wr 22 9 5 ⟨r0, 0, none⟩ 64 (hexOf (sha p)) Tryd.underlying22 Tryd.underlying5 Tryd.underlying9 (fun j hj => by
          rw [Addr.add_lit, Nat.zero_add]
          have hw := hW.out
          rw [List.take_of_length_le (by rw [sha_length]; omega)] at hw
          rw [show PB (hexN (sha p)) 64 = hexN (sha p) by unfold PB; rw [hexN_length, sha_length]; simp] at hw
          exact bytes_cell hw (by unfold hexN; rw [List.getElem?_map, List.getElem?_eq_getElem hj]; rfl))
        rw [hlen] at h
        exact h
      have BF : Hid (Below w.heap.size w wr) := by have h := BW1.out.trans hB.out; rw [← HR0.out] at h; exact h
      have hii : ¬ ((32 : Nat) : Int) < 32 := by omega
      clear hW hB
      go_wp2_with fail
      go_ret
      exact ⟨rfl, BF.out⟩
end Go.Proofs.YtkhbkckcgfddlaaDoor
