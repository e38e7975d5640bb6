/- The digest's state: Sum. -/
import Derived.Test.YtkhbkckcgfddlaaDoorW
import Derived.Deep.WholeRow
namespace Go.Proofs.YtkhbkckcgfddlaaDoor
open Go.RowKit
attribute [local go_sem] match_U match_B run_store_U run_store_B
theorem conv_u (x : W32) (W : World) : (convert 34 5 (U x)).run Tryd.prog W = .ok (B (x.toNat % 256)) W := by
  simp [convert, run_underlying Tryd.underlying5, run_underlying Tryd.underlying34, B, U, Conv.intToInt]
  exact low_byte x
theorem ishr_0 (x : W32) (W : World) : (binOp .shr 34 (U x) (.int .i64 0)).run Tryd.prog W = .ok (U (x >>> 0)) W := run_shr Tryd.prog 34 x .i64 0 (by decide) W
theorem ishr_8 (x : W32) (W : World) : (binOp .shr 34 (U x) (.int .i64 8)).run Tryd.prog W = .ok (U (x >>> 8)) W := run_shr Tryd.prog 34 x .i64 8 (by decide) W
theorem ishr_16 (x : W32) (W : World) : (binOp .shr 34 (U x) (.int .i64 16)).run Tryd.prog W = .ok (U (x >>> 16)) W := run_shr Tryd.prog 34 x .i64 16 (by decide) W
theorem ishr_24 (x : W32) (W : World) : (binOp .shr 34 (U x) (.int .i64 24)).run Tryd.prog W = .ok (U (x >>> 24)) W := run_shr Tryd.prog 34 x .i64 24 (by decide) W
attribute [local go_sem] conv_u ishr_0 ishr_8 ishr_16 ishr_24
/-- a whole row is loaded -/
theorem wpList_load_row {P : Program} {w : World} {ops : Array Oper} {rest : List Oper} {o : Oper} {a : Act} {Q : Exit → Act → World → Prop} (hgd : o.guard = none) (ty : TypeId) (x : Operand) (ho : o.op = .load ty x)
    (g : Nat) (cells : Array Value) (t : TypeId) (fr : Nat × Nat) (d : TypeDesc) (hx : a.eval x = .pointer (some ⟨g, 0, none⟩)) (hg : w.heap[g]? = some (.cells cells t fr)) (hu : P.underlying ty = some d) (hd : (match d with | .struct _ | .array _ _ => true | _ => false) = true) (hi : (P.info? ty).map (·.size) = some cells.size)
    (h : wpList P ops Q rest (a.put o.dst (.agg cells)) w) : wpList P ops Q (o :: rest) a w := by
  refine wpList_plain hgd fun K hK => ?_
  unfold Oper.wp execOp
  simp only [ho, hx, Instr.loadAt, Instr.sureAddr, Sem.run_bind, Sem.run_pure, Result.andThen_ok, run_loadVar_row w g t ty cells fr d hg hu hd hi]
  exact hK _ _ h
theorem Bytes_size (l : List Nat) : (Bytes l).size = l.length := by simp [Bytes]
theorem Bytes_one (l : List Nat) : (Bytes l).all (·.oneCell') = true := by
  rw [Array.all_eq_true_iff_forall_mem]
  intro v hv
  simp only [Bytes, List.mem_toArray, List.mem_map] at hv
  obtain ⟨x, _, rfl⟩ := hv
  rfl
theorem st_one (v : Eight) (wait : List Nat) (n : Nat) : (stCells v wait n).toArray.all (·.oneCell') = true := by
  rw [Array.all_eq_true_iff_forall_mem]
  intro x hx
  simp only [stCells, List.mem_toArray, List.mem_append, List.mem_map, List.mem_singleton] at hx
  rcases hx with ⟨y, _, rfl⟩ | ⟨y, _, rfl⟩ | rfl <;> rfl
def nOf (w : World) (sb : Nat) : Nat := match w.cell? ⟨sb, 72, none⟩ with | some (.int _ n) => n.toNat | _ => 0
theorem StAt.n {w : World} {sb : Nat} {b : List Nat} (h : StAt w sb b) : w.cell? ⟨sb, 72, none⟩ = some (.int .u64 (b.length : Int)) := by
  obtain ⟨wait, h1, _, h3⟩ := h.row
  rw [cell_of_row _ _ _ _ _ _ h3]; simpa using st_n h1
theorem StAt.nOf {w : World} {sb : Nat} {b : List Nat} (h : StAt w sb b) : nOf w sb = b.length := by unfold YtkhbkckcgfddlaaDoor.nOf; rw [h.n]; simp
theorem pad_lt {L j : Nat} (h : j < padZ L) : (L + 1 + j) % 64 ≠ 56 := by unfold padZ at h; omega
theorem pad_at (L : Nat) : (L + 1 + padZ L) % 64 = 56 := by unfold padZ; omega
theorem set8_bytes {w : World} {b : Nat} {T : TypeId} {ws : List Nat} (x0 x1 x2 x3 x4 x5 x6 x7 : Nat) (h : w.heap[b]? = some (.cells (Bytes ws) T (0, 0))) (hl : ws.length = 8) : ((((((((w.setCell ⟨b, 0, none⟩ (B x0)).setCell ⟨b, 1, none⟩ (B x1)).setCell ⟨b, 2, none⟩ (B x2)).setCell ⟨b, 3, none⟩ (B x3)).setCell ⟨b, 4, none⟩ (B x4)).setCell ⟨b, 5, none⟩ (B x5)).setCell ⟨b, 6, none⟩ (B x6)).setCell ⟨b, 7, none⟩ (B x7)).heap[b]? = some (.cells (Bytes [x0, x1, x2, x3, x4, x5, x6, x7]) T (0, 0)) := by
  match ws, hl with
  | [y0, y1, y2, y3, y4, y5, y6, y7], _ =>
  have r := h
  replace r := heap_setCell_same _ b 0 _ T (B x0) r
  rw [Bytes_set] at r
  replace r := heap_setCell_same _ b 1 _ T (B x1) r
  rw [Bytes_set] at r
  replace r := heap_setCell_same _ b 2 _ T (B x2) r
  rw [Bytes_set] at r
  replace r := heap_setCell_same _ b 3 _ T (B x3) r
  rw [Bytes_set] at r
  replace r := heap_setCell_same _ b 4 _ T (B x4) r
  rw [Bytes_set] at r
  replace r := heap_setCell_same _ b 5 _ T (B x5) r
  rw [Bytes_set] at r
  replace r := heap_setCell_same _ b 6 _ T (B x6) r
  rw [Bytes_set] at r
  replace r := heap_setCell_same _ b 7 _ T (B x7) r
  rw [Bytes_set] at r
  exact r
theorem bytes_cell {w : World} {b i : Nat} {T : TypeId} {fr : Nat × Nat} {ws : List Nat} {x : Nat} (hb : w.heap[b]? = some (.cells (Bytes ws) T fr)) (h : ws[i]? = some x) : w.cell? ⟨b, i, none⟩ = some (B x) := by
  rw [cell_of_row w b i _ T fr hb]; exact Bytes_at h
def PB (l : List Nat) (n : Nat) : List Nat := l ++ List.replicate (n - l.length) 0
theorem pb_next {w : World} {b : Nat} {T : TypeId} {fr : Nat × Nat} {l : List Nat} {i n : Nat} (hb : w.heap[b]? = some (.cells (Bytes (PB l n)) T fr)) (hi : l.length = i) (h : i < n) : w.cell? ⟨b, i, none⟩ = some (B 0) := by
  subst hi
  refine bytes_cell hb ?_
  unfold PB; rw [List.getElem?_append_right (Nat.le_refl _), Nat.sub_self, List.getElem?_replicate, if_pos (by omega)]
theorem pb_store {w : World} {b : Nat} {T : TypeId} {l : List Nat} {i n : Nat} (x : Nat) (hb : w.heap[b]? = some (.cells (Bytes (PB l n)) T (0, 0))) (hi : l.length = i) (h : i < n) : (w.setCell ⟨b, i, none⟩ (B x)).heap[b]? = some (.cells (Bytes (PB (l ++ [x]) n)) T (0, 0)) := by
  subst hi
  have := heap_setCell_same w b l.length _ T (B x) hb
  rw [Bytes_set] at this
  refine this.trans ?_
  congr 3
  unfold PB
  rw [List.set_append_right _ _ (Nat.le_refl _), Nat.sub_self, show n - l.length = (n - (l ++ [x]).length) + 1 by simp; omega, List.replicate_succ, List.set_cons_zero]
  simp
theorem take_nextB {l : List Nat} {i : Nat} {x : Nat} (h : l[i]? = some x) : l.take (i + 1) = l.take i ++ [x] := by
  have hi := (List.getElem?_eq_some_iff.1 h).1
  rw [List.take_succ_eq_append_getElem hi, show l[i] = x by rw [List.getElem?_eq_getElem hi] at h; exact Option.some.inj h]
theorem flat4_at : ∀ (l : List W32) (q : Nat) (x : W32) (r : Nat), l[q]? = some x → r < 4 → (l.flatMap bytes4)[4 * q + r]? = (bytes4 x)[r]?
  | [], q, x, r, h, _ => by simp at h
  | y :: l, 0, x, r, h, hr => by
    simp at h; subst h
    show (bytes4 y ++ l.flatMap bytes4)[4 * 0 + r]? = _
    rw [List.getElem?_append_left (by simp [bytes4]; omega), Nat.mul_zero, Nat.zero_add]
  | y :: l, q + 1, x, r, h, hr => by
    show (bytes4 y ++ l.flatMap bytes4)[4 * (q + 1) + r]? = _
    rw [List.getElem?_append_right (by simp [bytes4]; omega), show 4 * (q + 1) + r - (bytes4 y).length = 4 * q + r by simp [bytes4]; omega]
    exact flat4_at l q x r (by simpa using h) hr
theorem sumOf_length (v : Eight) : (sumOf v).length = 32 := rfl
theorem results_cell1 {fn : Func} {t : Tmp} {ty : TypeId} (h : fn.results = #[.cell t ty]) (tmps : Array Value) (P : Program) (w : World) {ad : Addr} {v : Value} (hp : tmps.getD t undef = .pointer (some ad)) (hl : (loadVar ty ad).run P w = .ok v w) : (results fn tmps).run P w = .ok v w := by
  simp only [Array.getD_eq_getD_getElem?] at hp
  simp [results, h, hp, asAddr, hl]
theorem zero45 : ∃ Z : Array Value, Z.size = 73 ∧ ∀ W : World, (zeroValue 45).run Tryd.prog W = .ok (.agg Z) W := ⟨#[.int .u32 0, .int .u32 0, .int .u32 0, .int .u32 0, .int .u32 0, .int .u32 0, .int .u32 0, .int .u32 0, .int .u8 0, .int .u8 0, .int .u8 0, .int .u8 0, .int .u8 0, .int .u8 0, .int .u8 0, .int .u8 0, .int .u8 0, .int .u8 0, .int .u8 0, .int .u8 0, .int .u8 0, .int .u8 0, .int .u8 0, .int .u8 0, .int .u8 0, .int .u8 0, .int .u8 0, .int .u8 0, .int .u8 0, .int .u8 0, .int .u8 0, .int .u8 0, .int .u8 0, .int .u8 0, .int .u8 0, .int .u8 0, .int .u8 0, .int .u8 0, .int .u8 0, .int .u8 0, .int .u8 0, .int .u8 0, .int .u8 0, .int .u8 0, .int .u8 0, .int .u8 0, .int .u8 0, .int .u8 0, .int .u8 0, .int .u8 0, .int .u8 0, .int .u8 0, .int .u8 0, .int .u8 0, .int .u8 0, .int .u8 0, .int .u8 0, .int .u8 0, .int .u8 0, .int .u8 0, .int .u8 0, .int .u8 0, .int .u8 0, .int .u8 0, .int .u8 0, .int .u8 0, .int .u8 0, .int .u8 0, .int .u8 0, .int .u8 0, .int .u8 0, .int .u8 0, .int .u64 0], rfl, fun W => by kernel_rfl⟩
theorem write_one (t3 : Nat) (b : List Nat) (x : Nat) (w : World) (hS : StAt w t3 b) (ht : TabAt w) (hl : b.length ≤ 200000) :
    Calls Tryd.prog 14 #[.pointer (some ⟨t3, 0, none⟩), .slice (some ⟨w.heap.size, 0, none⟩) 1 1] (w.alloc (.cells #[B x] 5)) fun e w' => e = .returned (.tuple #[]) ∧ StAt w' t3 (b ++ [x]) ∧ Fr (fun k => k = t3) w w' := by
  have hb := below_new' w (.cells #[B x] 5)
  have h3 : t3 < w.heap.size := by obtain ⟨_, _, _, h⟩ := hS.row; exact lt_of_heap h
  have := write_any t3 b [x] (some ⟨w.heap.size, 0, none⟩) 1 (w.alloc (.cells #[B x] 5)) (hS.below hb) (.inr ⟨_, 0, rfl, fun j y hj => by
    match j, hj with
    | 0, hj =>
      simp at hj; subst hj
      rw [cell_of_row _ _ _ _ _ _ (heap_alloc_at w _)]; rfl
    | j + 1, hj => simp at hj⟩) (fun _ g o e => by cases e; omega) (Nat.le_refl _) (ht.below hb) (by simp; omega)
  exact this.mono fun e w' ⟨h1, h2, h3⟩ => ⟨h1, h2, (Fr.below (S := fun k => k = t3) hb).trans h3⟩
set_option maxRecDepth 100000 in
set_option maxHeartbeats 4000000 in
theorem sum_any (sb : Nat) (b : List Nat) (w : World) (hS : StAt w sb b) (ht : TabAt w) (hl : b.length ≤ 100000) :
    Calls Tryd.prog 13 #[.pointer (some ⟨sb, 0, none⟩)] w fun e w' => e = .returned (.agg (Bytes (sha b))) ∧ Below w.heap.size w w' := by
  have HS := Lib.hid hS
  have HT := Lib.hid ht
  have HL := Lib.hid hl
  clear hS ht hl
  obtain ⟨Z, hZ, hz⟩ := zero45
  have HZ := Lib.hid hZ
  clear hZ
  go_enter Tryd.func13, Tryd.ntmps13
  go_upto_region 3 with fail
  have R0 := Lib.hid (heap_alloc_at w (.cells (Bytes (List.replicate 32 0)) 23))
  have B0 := Lib.hid (below_new' w (.cells (Bytes (List.replicate 32 0)) 23))
  have S0 := Lib.hid (HS.out.below B0.out)
  have T0 := Lib.hid (HT.out.below B0.out)
  have e0 : w.alloc (.cells #[.int .u8 0, .int .u8 0, .int .u8 0, .int .u8 0, .int .u8 0, .int .u8 0, .int .u8 0, .int .u8 0, .int .u8 0, .int .u8 0, .int .u8 0, .int .u8 0, .int .u8 0, .int .u8 0, .int .u8 0, .int .u8 0, .int .u8 0, .int .u8 0, .int .u8 0, .int .u8 0, .int .u8 0, .int .u8 0, .int .u8 0, .int .u8 0, .int .u8 0, .int .u8 0, .int .u8 0, .int .u8 0, .int .u8 0, .int .u8 0, .int .u8 0, .int .u8 0] 23) = w.alloc (.cells (Bytes (List.replicate 32 0)) 23) := rfl
  rw [e0]
  clear e0
  generalize w.alloc (.cells (Bytes (List.replicate 32 0)) 23) = w0 at R0 B0 S0 T0 ⊢
  obtain ⟨r0, hr0⟩ : ∃ r0, w.heap.size = r0 := ⟨_, rfl⟩
  have HR0 := Lib.hid hr0
  rw [hr0] at R0 ⊢
  clear hr0
  obtain ⟨wait, hw, htl, hrow⟩ := S0.out.row
  obtain ⟨L, hL⟩ : ∃ L, b.length = L := ⟨_, rfl⟩
  rw [hL] at hrow htl
  have hsz : (stCells (full b) wait L).toArray.size = 73 := by rw [List.size_toArray]; exact st_length hw
  have HROW := Lib.hid hrow
  have I45 : Hid ((Tryd.prog.info? 45).map (·.size) = some (stCells (full b) wait L).toArray.size) := by show _ = _; rw [hsz]; kernel_rfl
  have HOLD : Hid (Z.size = (stCells (full b) wait L).toArray.size) := by show _ = _; rw [hsz, HZ.out]
  have HONE := Lib.hid (st_one (full b) wait L)
  have HW := Lib.hid hw
  have HTL := Lib.hid htl
  have HLL := Lib.hid hL
  clear hrow hsz hw htl hL
  go_upto_region 4 with (first
    | (with_reducible refine wpList_load_row rfl 45 (.tmp 14) rfl sb (stCells (full b) wait L).toArray 45 (0, 0) _ rfl HROW.out Tryd.underlying45 rfl I45.out ?_)
    | (with_reducible refine wpList_store_row rfl 45 (.tmp 3) (.tmp 15) rfl w0.heap.size (stCells (full b) wait L).toArray rfl rfl 45 Z (heap_alloc_at w0 _) I45.out HOLD.out HONE.out ?_; rw [World.setRow_alloc_new]))
  have B1 := Lib.hid (B0.out.alloc B0.out.size (.cells (stCells (full b) wait L).toArray 45))
  have R1 : Hid ((w0.alloc (.cells (stCells (full b) wait L).toArray 45)).heap[r0]? = some (.cells (Bytes (List.replicate 32 0)) 23 (0, 0))) := (alloc_heap _ (lt_of_heap R0.out)).trans R0.out
  have T1 := Lib.hid (T0.out.below (below_new' w0 (.cells (stCells (full b) wait L).toArray 45)))
  have S1 : Hid (StAt (w0.alloc (.cells (stCells (full b) wait L).toArray 45)) w0.heap.size b) := ⟨⟨wait, HW.out, by rw [HLL.out]; exact HTL.out, by rw [HLL.out]; exact heap_alloc_at w0 _⟩, by have := T0.out.pos; omega⟩
  have hr0 : r0 < w0.heap.size := lt_of_heap R0.out
  generalize w0.alloc (.cells (stCells (full b) wait L).toArray 45) = w1 at B1 R1 T1 S1 ⊢
  generalize w0.heap.size = t3 at S1 hr0 ⊢
  clear HROW I45 HOLD HONE HW HTL hz HZ B0 S0 T0 R0
  have c72 := S1.out.n
  rw [HLL.out] at c72
  obtain ⟨N, hN⟩ : ∃ N, L * 8 = N := ⟨_, rfl⟩
  have HN := Lib.hid hN
  have hmul : IntKind.u64.wrap ((L : Int) * 8) = (N : Int) := by
    have := HL.out
    rw [HLL.out] at this
    simp [IntKind.wrap, IntKind.bits, IntKind.signed]; omega
  clear hN
  have W128 : Hid (Calls Tryd.prog 14 #[.pointer (some ⟨t3, 0, none⟩), .slice (some ⟨w1.heap.size, 0, none⟩) 1 1] (w1.alloc (.cells #[.int .u8 128] 5)) fun e w' => e = .returned (.tuple #[]) ∧ StAt w' t3 (b ++ [128]) ∧ Fr (fun k => k = t3) w1 w') := write_one t3 b 128 w1 S1.out T1.out (by have := HL.out; omega)
  have hlt3 : t3 < w1.heap.size := World.block_lt_of_cell? w1 _ c72
  go_upto_region 6 with (go_at_call 14; (with_reducible refine Calls.mono W128.out ?_); rintro e w2 ⟨rfl, hs2, hf2⟩; have S2 := Lib.hid hs2; have F2 := Lib.hid hf2; clear hs2 hf2)
  go_wp2_with fail
  go_loopw [] (fun wr => ∃ j : Nat, j ≤ padZ L ∧ Hid (StAt wr t3 (b ++ [128] ++ List.replicate j 0)) ∧ Hid (Fr (fun k => k = t3) w1 wr)) (fun wr => L + 1 + padZ L - nOf wr t3)
  case atStart => exact ⟨0, Nat.zero_le _, by rw [List.replicate_zero, List.append_nil]; exact S2.out, F2.out⟩
  case round =>
    obtain ⟨j, hj, hS, hF⟩ := hrel
    have hlen : (b ++ [128] ++ List.replicate j 0).length = L + 1 + j := by simp [HLL.out]; omega
    have cj := hS.out.n
    rw [hlen] at cj
    obtain ⟨M, hM⟩ : ∃ M, L + 1 + j = M := ⟨_, rfl⟩
    rw [hM] at cj
    have HM := Lib.hid hM
    have HLEN := Lib.hid hlen
    by_cases hlt : j < padZ L
    · have hm0 := pad_lt hlt
      have hm1 : ((M : Int) % 64 != 56) = true := by rw [bne_iff_ne]; omega
      have TJ : Hid (TabAt wr) := T1.out.fr hF.out (by have := S1.out.pos; omega)
      have hle : (b ++ [128] ++ List.replicate j 0).length ≤ 200000 := by
        have h1 := HL.out
        have h2 := HLL.out
        have h3 : padZ L < 64 := by unfold padZ; omega
        rw [hlen]; omega
      have W0 : Hid (Calls Tryd.prog 14 #[.pointer (some ⟨t3, 0, none⟩), .slice (some ⟨wr.heap.size, 0, none⟩) 1 1] (wr.alloc (.cells #[.int .u8 0] 5)) fun e w' => e = .returned (.tuple #[]) ∧ StAt w' t3 (b ++ [128] ++ List.replicate j 0 ++ [0]) ∧ Fr (fun k => k = t3) wr w') := write_one t3 _ 0 wr hS.out TJ.out hle
      clear hM hlen hm0 hle
      go_wp2_with (go_at_call 14; (with_reducible refine Calls.mono W0.out ?_); rintro e w3 ⟨rfl, hs3, hf3⟩; have S3 := Lib.hid hs3; have F3 := Lib.hid hf3; clear hs3 hf3)
      go_roundw
      case rel => exact ⟨j + 1, by omega, by have := S3.out; rw [List.append_assoc, ← List.replicate_succ'] at this; exact this, hF.out.trans F3.out⟩
      case measure =>
        have h1 := hS.out.nOf
        have h2 := S3.out.nOf
        rw [List.length_append, HLEN.out] at h2
        rw [HLEN.out] at h1
        simp only [List.length_cons, List.length_nil] at h2
        omega
    · obtain rfl : j = padZ L := by omega
      have hm0 := pad_at L
      have hm1 : ((M : Int) % 64 != 56) = false := by rw [bne_eq_false_iff_eq]; omega
      have TJ : Hid (TabAt wr) := T1.out.fr hF.out (by have := S1.out.pos; omega)
      clear hM hlen hm0 S2 F2
      obtain ⟨w3, rfl⟩ : ∃ w3 : World, w3 = wr := ⟨_, rfl⟩
      go_upto_region 9 with fail
      have g5 := Lib.hid (heap_alloc_at w3 (.cells (Bytes (List.replicate 8 0)) 46))
      have BS : Hid (StAt (w3.alloc (.cells (Bytes (List.replicate 8 0)) 46)) t3 (b ++ [128] ++ List.replicate (padZ L) 0)) := hS.out.below (below_new' w3 _)
      have FS : Hid (Fr (fun k => k = t3) w1 (w3.alloc (.cells (Bytes (List.replicate 8 0)) 46))) := hF.out.alloc _
      have e0 : w3.alloc (.cells #[.int .u8 0, .int .u8 0, .int .u8 0, .int .u8 0, .int .u8 0, .int .u8 0, .int .u8 0, .int .u8 0] 46) = w3.alloc (.cells (Bytes (List.replicate 8 0)) 46) := rfl
      rw [e0]
      clear e0 cj hm1
      have hs5 : t3 < w3.heap.size := by obtain ⟨_, _, _, h⟩ := hS.out.row; exact lt_of_heap h
      generalize w3.alloc (.cells (Bytes (List.replicate 8 0)) 46) = w4 at g5 BS FS ⊢
      generalize w3.heap.size = s5 at g5 hs5 ⊢
      clear hS hF TJ
      go_wp2_with fail
      obtain ⟨z0, z1, z2, z3, z4, z5, z6, z7⟩ : w4.cell? ⟨s5, 0, none⟩ = some (B 0) ∧ w4.cell? ⟨s5, 1, none⟩ = some (B 0) ∧ w4.cell? ⟨s5, 2, none⟩ = some (B 0) ∧ w4.cell? ⟨s5, 3, none⟩ = some (B 0) ∧ w4.cell? ⟨s5, 4, none⟩ = some (B 0) ∧ w4.cell? ⟨s5, 5, none⟩ = some (B 0) ∧ w4.cell? ⟨s5, 6, none⟩ = some (B 0) ∧ w4.cell? ⟨s5, 7, none⟩ = some (B 0) := by
        refine ⟨?_, ?_, ?_, ?_, ?_, ?_, ?_, ?_⟩ <;> (rw [cell_of_row _ _ _ _ _ _ g5.out]; rfl)
      have fz := fun j => frozen_of_row w4 s5 j _ 46 g5.out
      refine wp_loop_rounds 9 ?_
      repeat any_goals (rw [rounds_succ]; go_upto_region 14 with fail)
      obtain ⟨x0, hx0⟩ : ∃ x, N / 2 ^ 56 % 256 = x := ⟨_, rfl⟩
      have e0 : (N : Int) / 72057594037927936 % 256 = (x0 : Int) := by omega
      obtain ⟨x1, hx1⟩ : ∃ x, N / 2 ^ 48 % 256 = x := ⟨_, rfl⟩
      have e1 : (N : Int) / 281474976710656 % 256 = (x1 : Int) := by omega
      obtain ⟨x2, hx2⟩ : ∃ x, N / 2 ^ 40 % 256 = x := ⟨_, rfl⟩
      have e2 : (N : Int) / 1099511627776 % 256 = (x2 : Int) := by omega
      obtain ⟨x3, hx3⟩ : ∃ x, N / 2 ^ 32 % 256 = x := ⟨_, rfl⟩
      have e3 : (N : Int) / 4294967296 % 256 = (x3 : Int) := by omega
      obtain ⟨x4, hx4⟩ : ∃ x, N / 2 ^ 24 % 256 = x := ⟨_, rfl⟩
      have e4 : (N : Int) / 16777216 % 256 = (x4 : Int) := by omega
      obtain ⟨x5, hx5⟩ : ∃ x, N / 2 ^ 16 % 256 = x := ⟨_, rfl⟩
      have e5 : (N : Int) / 65536 % 256 = (x5 : Int) := by omega
      obtain ⟨x6, hx6⟩ : ∃ x, N / 2 ^ 8 % 256 = x := ⟨_, rfl⟩
      have e6 : (N : Int) / 256 % 256 = (x6 : Int) := by omega
      obtain ⟨x7, hx7⟩ : ∃ x, N % 256 = x := ⟨_, rfl⟩
      have e7 : (N : Int) % 256 = (x7 : Int) := by omega
      have HBE : Hid (be8 N = [x0, x1, x2, x3, x4, x5, x6, x7]) := by show _ = _; unfold be8; rw [hx0, hx1, hx2, hx3, hx4, hx5, hx6, hx7]
      rw [e0, e1, e2, e3, e4, e5, e6, e7]
      clear e0 e1 e2 e3 e4 e5 e6 e7 hx0 hx1 hx2 hx3 hx4 hx5 hx6 hx7
      have hblk : Hid (((((((((w4.setCell ⟨s5, 0, none⟩ (.int .u8 (x0 : Int))).setCell ⟨s5, 1, none⟩ (.int .u8 (x1 : Int))).setCell ⟨s5, 2, none⟩ (.int .u8 (x2 : Int))).setCell ⟨s5, 3, none⟩ (.int .u8 (x3 : Int))).setCell ⟨s5, 4, none⟩ (.int .u8 (x4 : Int))).setCell ⟨s5, 5, none⟩ (.int .u8 (x5 : Int))).setCell ⟨s5, 6, none⟩ (.int .u8 (x6 : Int))).setCell ⟨s5, 7, none⟩ (.int .u8 (x7 : Int))).heap[s5]? = some (.cells (Bytes (be8 N)) 46 (0, 0))) := by
        show _ = _
        rw [HBE.out]
        exact set8_bytes x0 x1 x2 x3 x4 x5 x6 x7 g5.out rfl
      have hfr : Hid (Fr (fun k => k = s5) w4 ((((((((w4.setCell ⟨s5, 0, none⟩ (.int .u8 (x0 : Int))).setCell ⟨s5, 1, none⟩ (.int .u8 (x1 : Int))).setCell ⟨s5, 2, none⟩ (.int .u8 (x2 : Int))).setCell ⟨s5, 3, none⟩ (.int .u8 (x3 : Int))).setCell ⟨s5, 4, none⟩ (.int .u8 (x4 : Int))).setCell ⟨s5, 5, none⟩ (.int .u8 (x5 : Int))).setCell ⟨s5, 6, none⟩ (.int .u8 (x6 : Int))).setCell ⟨s5, 7, none⟩ (.int .u8 (x7 : Int)))) := set8_fr w4 s5 _ _ _ _ _ _ _ _
      generalize ((((((((w4.setCell ⟨s5, 0, none⟩ (.int .u8 (x0 : Int))).setCell ⟨s5, 1, none⟩ (.int .u8 (x1 : Int))).setCell ⟨s5, 2, none⟩ (.int .u8 (x2 : Int))).setCell ⟨s5, 3, none⟩ (.int .u8 (x3 : Int))).setCell ⟨s5, 4, none⟩ (.int .u8 (x4 : Int))).setCell ⟨s5, 5, none⟩ (.int .u8 (x5 : Int))).setCell ⟨s5, 6, none⟩ (.int .u8 (x6 : Int))).setCell ⟨s5, 7, none⟩ (.int .u8 (x7 : Int))) = w5 at hblk hfr ⊢
      clear z0 z1 z2 z3 z4 z5 z6 z7 fz g5
      have S5 : Hid (StAt w5 t3 (b ++ [128] ++ List.replicate (padZ L) 0)) := BS.out.fr hfr.out (by omega)
      have F5 : Hid (Fr (fun k => k = t3 ∨ k = s5) w1 w5) := (FS.out.weak (fun k _ h => .inl h)).trans (hfr.out.weak (fun k _ h => .inr h))
      have T5 : Hid (TabAt w5) := T1.out.fr F5.out (by have := S1.out.pos; omega)
      have WB : Hid (Calls Tryd.prog 14 #[.pointer (some ⟨t3, 0, none⟩), .slice (some ⟨s5, 0, none⟩) 8 8] w5 fun e w' => e = .returned (.tuple #[]) ∧ StAt w' t3 (b ++ [128] ++ List.replicate (padZ L) 0 ++ be8 N) ∧ Fr (fun k => k = t3) w5 w') :=
        write_any t3 _ (be8 N) (some ⟨s5, 0, none⟩) 8 w5 S5.out (.inr ⟨s5, 0, rfl, fun j x hj => by rw [Nat.zero_add]; exact bytes_cell hblk.out hj⟩) (fun _ g o e => by cases e; omega) (Nat.le_refl _) T5.out (by
          have h1 := HL.out
          have h2 := HLL.out
          have h3 : padZ L < 64 := by unfold padZ; omega
          have h4 : (be8 N).length = 8 := rfl
          rw [HLEN.out, h4]
          omega)
      have HFILL : Hid (b ++ [128] ++ List.replicate (padZ L) 0 ++ be8 N = filled b) := by
        show _ = _
        unfold filled
        rw [HLL.out, HN.out]
      rw [HFILL.out] at WB
      go_upto_region 16 with (go_at_call 14; (with_reducible refine Calls.mono WB.out ?_); rintro e w6 ⟨rfl, hs6, hf6⟩; have S6 := Lib.hid hs6; have F6 := Lib.hid hf6; clear hs6 hf6)
      have G7 := Lib.hid (heap_alloc_at w6 (.cells (Bytes (PB [] 32)) 23))
      have F7 : Hid (Fr (fun k => k = t3 ∨ k = s5) w1 (w6.alloc (.cells (Bytes (PB [] 32)) 23))) := (F5.out.trans (F6.out.weak (fun k _ h => .inl h))).alloc _
      have S7 : Hid (StAt (w6.alloc (.cells (Bytes (PB [] 32)) 23)) t3 (filled b)) := S6.out.below (below_new' w6 _)
      have e0 : w6.alloc (.cells #[.int .u8 0, .int .u8 0, .int .u8 0, .int .u8 0, .int .u8 0, .int .u8 0, .int .u8 0, .int .u8 0, .int .u8 0, .int .u8 0, .int .u8 0, .int .u8 0, .int .u8 0, .int .u8 0, .int .u8 0, .int .u8 0, .int .u8 0, .int .u8 0, .int .u8 0, .int .u8 0, .int .u8 0, .int .u8 0, .int .u8 0, .int .u8 0, .int .u8 0, .int .u8 0, .int .u8 0, .int .u8 0, .int .u8 0, .int .u8 0, .int .u8 0, .int .u8 0] 23) = w6.alloc (.cells (Bytes (PB [] 32)) 23) := rfl
      rw [e0]
      clear e0
      have ho7 : t3 < w6.heap.size := by obtain ⟨_, _, _, h⟩ := S6.out.row; exact lt_of_heap h
      generalize w6.alloc (.cells (Bytes (PB [] 32)) 23) = w7 at G7 F7 S7 ⊢
      generalize w6.heap.size = o7 at G7 ho7 ⊢
      obtain ⟨wait7, _, _, hrow7⟩ := S7.out.row
      have HR7 := Lib.hid hrow7
      obtain ⟨V, hV⟩ : ∃ V, full (filled b) = V := ⟨_, rfl⟩
      rw [hV] at HR7
      have HSHA : Hid (sha b = sumOf V) := by show _ = _; rw [sha_full, hV]
      clear hrow7 hV S6 F6 S5 F5 T5 WB hfr BS FS
      go_wp2_with fail
      go_loopw [41] (fun iv wr => ∃ i : Nat, i ≤ 32 ∧ iv = .int .i64 i ∧ Hid (wr.heap[o7]? = some (.cells (Bytes (PB ((sumOf V).take i) 32)) 23 (0, 0))) ∧ Hid (Below o7 w7 wr)) (fun iv _ => 32 - (intOf iv).toNat)
      case atStart => exact ⟨0, by omega, rfl, G7.out, Below.refl _ _⟩
      case round =>
        obtain ⟨i, hi, rfl, hW, hB⟩ := hrel
        by_cases hlt : i < 32
        · obtain ⟨q, hqi⟩ : ∃ q, i / 4 = q := ⟨_, rfl⟩
          obtain ⟨x, hq⟩ : ∃ x, V.list[q]? = some x := ⟨_, List.getElem?_eq_getElem (show q < 8 by omega)⟩
          have hqI : (i : Int) / 4 = (q : Int) := by omega
          have hq8 : (q : Int) < 8 := by omega
          have cx : wr.cell? ⟨t3, q, none⟩ = some (U x) := by
            refine (hB.out.cell (p := ⟨t3, q, none⟩) ho7).trans ?_
            rw [cell_of_row _ _ _ _ _ _ HR7.out]
            simpa using st_v hq
          have htl : ((sumOf V).take i).length = i := by rw [List.length_take, sumOf_length]; omega
          have c0 := pb_next hW.out htl hlt
          have HTL := Lib.hid htl
          have fz := frozen_of_row wr o7 i _ 23 hW.out
          have hii : (i : Int) < 32 := by omega
          clear htl
          have hc4 : i % 4 = 0 ∨ i % 4 = 1 ∨ i % 4 = 2 ∨ i % 4 = 3 := by omega
          rcases hc4 with hc4 | hc4 | hc4 | hc4
          · have hx := (flat4_at V.list q x 0 hq (by omega))
            have hxx : Hid ((sumOf V)[i]? = some ((x >>> 24).toNat % 256)) := by show (V.list.flatMap bytes4)[i]? = _; rw [show i = 4 * q + 0 by omega, hx]; rfl
            have hr : (i : Int) % 4 = 0 := by omega
            clear hx
            go_wp2_with fail
            go_roundw
            case rel => exact ⟨i + 1, by omega, by go_num, by rw [take_nextB hxx.out]; exact pb_store _ hW.out HTL.out hlt, hB.out.setCell (p := ⟨o7, i, none⟩) (Nat.le_refl _) _⟩
            case measure => simp [intOf]; omega
          · have hx := (flat4_at V.list q x 1 hq (by omega))
            have hxx : Hid ((sumOf V)[i]? = some ((x >>> 16).toNat % 256)) := by show (V.list.flatMap bytes4)[i]? = _; rw [show i = 4 * q + 1 by omega, hx]; rfl
            have hr : (i : Int) % 4 = 1 := by omega
            clear hx
            go_wp2_with fail
            go_roundw
            case rel => exact ⟨i + 1, by omega, by go_num, by rw [take_nextB hxx.out]; exact pb_store _ hW.out HTL.out hlt, hB.out.setCell (p := ⟨o7, i, none⟩) (Nat.le_refl _) _⟩
            case measure => simp [intOf]; omega
          · have hx := (flat4_at V.list q x 2 hq (by omega))
            have hxx : Hid ((sumOf V)[i]? = some ((x >>> 8).toNat % 256)) := by show (V.list.flatMap bytes4)[i]? = _; rw [show i = 4 * q + 2 by omega, hx]; rfl
            have hr : (i : Int) % 4 = 2 := by omega
            clear hx
            go_wp2_with fail
            go_roundw
            case rel => exact ⟨i + 1, by omega, by go_num, by rw [take_nextB hxx.out]; exact pb_store _ hW.out HTL.out hlt, hB.out.setCell (p := ⟨o7, i, none⟩) (Nat.le_refl _) _⟩
            case measure => simp [intOf]; omega
          · have hx := (flat4_at V.list q x 3 hq (by omega))
            have hxx : Hid ((sumOf V)[i]? = some ((x >>> 0).toNat % 256)) := by show (V.list.flatMap bytes4)[i]? = _; rw [show i = 4 * q + 3 by omega, hx]; simp [bytes4]
            have hr : (i : Int) % 4 = 3 := by omega
            clear hx
            go_wp2_with fail
            go_roundw
            case rel => exact ⟨i + 1, by omega, by go_num, by rw [take_nextB hxx.out]; exact pb_store _ hW.out HTL.out hlt, hB.out.setCell (p := ⟨o7, i, none⟩) (Nat.le_refl _) _⟩
            case measure => simp [intOf]; omega
        · obtain rfl : i = 32 := by omega
          have hW' : Hid (wr.heap[o7]? = some (.cells (Bytes (sha b)) 23 (0, 0))) := by
            have := hW.out
            rw [List.take_of_length_le (by rw [sumOf_length]; omega)] at this
            rw [show PB (sumOf V) 32 = sumOf V by unfold PB; rw [sumOf_length]; simp, ← HSHA.out] at this
            exact this
          have hl32 : (sha b).length = 32 := by rw [HSHA.out]; exact sumOf_length V
          have I23 : Hid ((Tryd.prog.info? 23).map (·.size) = some (Bytes (sha b)).size) := by show _ = _; rw [Bytes_size, hl32]; kernel_rfl
          have HOLD : Hid ((Bytes (List.replicate 32 0)).size = (Bytes (sha b)).size) := by show _ = _; rw [Bytes_size, Bytes_size, hl32]; rfl
          have RR : Hid (wr.heap[r0]? = some (.cells (Bytes (List.replicate 32 0)) 23 (0, 0))) := (hB.out.block r0 (by omega)).trans (F7.out.at_ (by omega) R1.out)
          have BF : Hid (Below w.heap.size w (wr.setRow r0 (Bytes (sha b)))) := by
            have h1 : Below w.heap.size w w7 := B1.out.trans (F7.out.toBelow (fun k _ hk => by have := HR0.out; omega) B1.out.size)
            have h2 : Below w.heap.size w wr := h1.trans (hB.out.mono (by have := HR0.out; omega))
            exact below_setRow h2 (by have := HR0.out; omega) _
          have HG : Hid ((wr.setRow r0 (Bytes (sha b))).heap[r0]? = some (.cells (Bytes (sha b)) 23 (0, 0))) := setRow_heap wr r0 _ _ 23 _ RR.out
          have HON := Lib.hid (Bytes_one (sha b))
          clear hl32 hW hB
          go_wp2_with (first
            | (with_reducible refine wpList_load_row rfl 23 (.tmp 7) rfl o7 (Bytes (sha b)) 23 (0, 0) _ rfl hW'.out Tryd.underlying23 rfl I23.out ?_)
            | (with_reducible refine wpList_store_row rfl 23 (.tmp 2) (.tmp 58) rfl r0 (Bytes (sha b)) rfl rfl 23 (Bytes (List.replicate 32 0)) RR.out I23.out HOLD.out HON.out ?_))
          have hload := run_loadVar_row (P := Tryd.prog) _ r0 23 23 (Bytes (sha b)) (0, 0) _ HG.out Tryd.underlying23 rfl I23.out
          exact bodyPost_ret (results_cell1 Tryd.results13 _ _ _ rfl hload) rfl ⟨rfl, BF.out⟩
end Go.Proofs.YtkhbkckcgfddlaaDoor
