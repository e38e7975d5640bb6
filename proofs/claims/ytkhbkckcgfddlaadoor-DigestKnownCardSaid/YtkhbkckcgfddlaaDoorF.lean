/- What has turned in a world; words in blocks. -/
import Derived.Test.YtkhbkckcgfddlaaDoorA
namespace Go.Proofs.YtkhbkckcgfddlaaDoor
open Go.RowKit
theorem heap_alloc_at (w : World) (o : Obj) : (w.alloc o).heap[w.heap.size]? = some o := (MapKept.heap_alloc w o).1
theorem lt_of_heap {w : World} {b : Nat} {o : Obj} (h : w.heap[b]? = some o) : b < w.heap.size := (Array.getElem?_eq_some_iff.1 h).1
theorem alloc_heap {w : World} {b : Nat} (o : Obj) (h : b < w.heap.size) : (w.alloc o).heap[b]? = w.heap[b]? := Below.heap_alloc w o b h
theorem alloc3_at (w : World) (a b c : Obj) : (((w.alloc a).alloc b).alloc c).heap[w.heap.size]? = some a ∧ (((w.alloc a).alloc b).alloc c).heap[w.heap.size + 1]? = some b ∧ (((w.alloc a).alloc b).alloc c).heap[w.heap.size + 1 + 1]? = some c := by
  refine ⟨?_, ?_, ?_⟩
  · show (((w.heap.push a).push b).push c)[w.heap.size]? = _
    rw [Array.getElem?_push, if_neg (by simp; omega), Array.getElem?_push, if_neg (by simp), Array.getElem?_push, if_pos rfl]
  · show (((w.heap.push a).push b).push c)[w.heap.size + 1]? = _
    rw [Array.getElem?_push, if_neg (by simp), Array.getElem?_push, if_pos (by simp)]
  · show (((w.heap.push a).push b).push c)[w.heap.size + 1 + 1]? = _
    rw [Array.getElem?_push, if_pos (by simp)]
theorem bcell {w w1 : World} {B : Nat} (hb : Below B w w1) : (∀ b o, b < B → w1.cell? ⟨b, o, none⟩ = w.cell? ⟨b, o, none⟩) ∧ (∀ b o, b < B → w1.frozen? ⟨b, o, none⟩ = w.frozen? ⟨b, o, none⟩) :=
  ⟨fun b o h => hb.cell (p := ⟨b, o, none⟩) h, fun b o h => hb.frozen (p := ⟨b, o, none⟩) h⟩
theorem cell_later {w w' : World} {b o : Nat} {v : Value} (h : Below w.heap.size w w') (hc : w.cell? ⟨b, o, none⟩ = some v) : w'.cell? ⟨b, o, none⟩ = some v := (h.cell (World.block_lt_of_cell? w _ hc)).trans hc
theorem below_new' (w : World) (o : Obj) : Below w.heap.size w (w.alloc o) := (Below.refl _ _).alloc (Nat.le_refl _) _
theorem lt2 {a b c : World} (h1 : Below a.heap.size a b) (h2 : Below b.heap.size b c) : Below a.heap.size a c := h1.trans (h2.mono h1.size)
/-- of what was there, nothing has turned but the blocks of S -/
structure Fr (S : Nat → Prop) (w w' : World) : Prop where
  os : w'.os = w.os
  tape : w'.tape = w.tape
  output : w'.output = w.output
  size : w.heap.size ≤ w'.heap.size
  block : ∀ k, k < w.heap.size → ¬ S k → w'.heap[k]? = w.heap[k]?
theorem Fr.refl (S : Nat → Prop) (w : World) : Fr S w w := ⟨rfl, rfl, rfl, Nat.le_refl _, fun _ _ _ => rfl⟩
theorem Fr.trans {S : Nat → Prop} {a b c : World} (h : Fr S a b) (k : Fr S b c) : Fr S a c :=
  ⟨k.os.trans h.os, k.tape.trans h.tape, k.output.trans h.output, Nat.le_trans h.size k.size, fun i hi hr => (k.block i (Nat.lt_of_lt_of_le hi h.size) hr).trans (h.block i hi hr)⟩
theorem Fr.trans' {S T : Nat → Prop} {a b c : World} (h : Fr S a b) (k : Fr T b c) (hst : ∀ i, i < a.heap.size → T i → S i) : Fr S a c :=
  ⟨k.os.trans h.os, k.tape.trans h.tape, k.output.trans h.output, Nat.le_trans h.size k.size, fun i hi hr => (k.block i (Nat.lt_of_lt_of_le hi h.size) (fun ht => hr (hst i hi ht))).trans (h.block i hi hr)⟩
theorem Fr.weak {S T : Nat → Prop} {a b : World} (h : Fr S a b) (hst : ∀ k, k < a.heap.size → S k → T k) : Fr T a b := ⟨h.os, h.tape, h.output, h.size, fun k hk hn => h.block k hk (fun s => hn (hst k hk s))⟩
theorem Fr.below {S : Nat → Prop} {a b : World} (h : Below a.heap.size a b) : Fr S a b := ⟨h.os, h.tape, h.output, h.size, fun k hk _ => h.block k hk⟩
theorem Fr.set {S : Nat → Prop} {a b : World} (h : Fr S a b) (p : Addr) (v : Value) (hs : p.block < a.heap.size → S p.block) : Fr S a (b.setCell p v) :=
  ⟨h.os, h.tape, h.output, by simpa [World.setCell] using h.size, fun k hk hr => (Below.heap_setCell _ _ _ _ (fun e => hr (by rw [e]; exact hs (by rw [← e]; exact hk)))).trans (h.block k hk hr)⟩
theorem Fr.drewN {S : Nat → Prop} {a b : World} (h : Fr S a b) (n : Nat) : Fr S a (b.drewN n) := ⟨h.os, h.tape, h.output, h.size, h.block⟩
theorem Fr.drew {S : Nat → Prop} {a b : World} (h : Fr S a b) : Fr S a b.drew := ⟨h.os, h.tape, h.output, h.size, h.block⟩
theorem Fr.alloc {S : Nat → Prop} {a b : World} (h : Fr S a b) (o : Obj) : Fr S a (b.alloc o) := h.trans' (T := fun _ => False) (Fr.below ((Below.refl _ _).alloc (Nat.le_refl _) o)) (fun _ _ h => h.elim)
theorem Fr.toBelow {a b : World} {S : Nat → Prop} {B : Nat} (h : Fr S a b) (hs : ∀ k, k < a.heap.size → S k → B ≤ k) (hB : B ≤ a.heap.size) : Below B a b := ⟨h.os, h.tape, h.output, h.size, fun k hk => h.block k (by omega) (fun x => by have := hs k (by omega) x; omega)⟩
theorem Fr.cell {a b : World} {S : Nat → Prop} {k o : Nat} {v : Value} (h : Fr S a b) (hn : ¬ S k) (hc : a.cell? ⟨k, o, none⟩ = some v) : b.cell? ⟨k, o, none⟩ = some v :=
  (World.cell?_of_block (h.block k (World.block_lt_of_cell? a _ hc) hn)).trans hc
theorem Fr.at_ {a b : World} {S : Nat → Prop} {k : Nat} {o : Obj} (h : Fr S a b) (hn : ¬ S k) (hc : a.heap[k]? = some o) : b.heap[k]? = some o := (h.block k (lt_of_heap hc) hn).trans hc
theorem below_drewN {w w' : World} {B : Nat} (h : Below B w w') (n : Nat) : Below B w (w'.drewN n) := ⟨h.os, h.tape, h.output, h.size, h.block⟩
theorem quiet_add {P : Program} {f : FuncId} {args : Array Value} {w : World} {m n : Nat} {v : Value} (h : Calls P f args (w.drewN (m + n)) fun e w' => e = .returned v ∧ w' = w.drewN (m + n)) : Calls P f args (w.drewN (m + n)) fun e w'' => e = .returned v ∧ ∃ k, w'' = w.drewN (m + k) :=
  h.mono fun _ _ ⟨he, hm⟩ => ⟨he, n, hm⟩
def B (n : Nat) : Value := .int .u8 (n : Int)
theorem run_store_U (P : Program) (w : World) (a : Addr) (m : Mode) (x : W32) : (store a (U x) m).run P w = stored P w a (U x) m := run_store P w a _ m rfl
theorem run_store_B (P : Program) (w : World) (a : Addr) (m : Mode) (x : Nat) : (store a (B x) m).run P w = stored P w a (B x) m := run_store P w a _ m rfl
theorem match_U (x : W32) : Value.cells.match_1 (motive := fun _ => Array Value) (U x) (fun cs => cs) (fun v => #[v]) = #[U x] := rfl
theorem match_B (x : Nat) : Value.cells.match_1 (motive := fun _ => Array Value) (B x) (fun cs => cs) (fun v => #[v]) = #[B x] := rfl
def Words (ws : List W32) : Array Value := (ws.map U).toArray
def Bytes (bs : List Nat) : Array Value := (bs.map B).toArray
theorem Words_at {ws : List W32} {i : Nat} {x : W32} (h : ws[i]? = some x) : (Words ws)[i]? = some (U x) := by simp [Words, h]
theorem Words_set (ws : List W32) (i : Nat) (x : W32) : (Words ws).setIfInBounds i (U x) = Words (ws.set i x) := by simp [Words]
theorem Bytes_at {ws : List Nat} {i : Nat} {x : Nat} (h : ws[i]? = some x) : (Bytes ws)[i]? = some (B x) := by simp [Bytes, h]
theorem Bytes_set (ws : List Nat) (i : Nat) (x : Nat) : (Bytes ws).setIfInBounds i (B x) = Bytes (ws.set i x) := by simp [Bytes]
theorem words_cell {w : World} {b i : Nat} {T : TypeId} {fr : Nat × Nat} {ws : List W32} {x : W32} (hb : w.heap[b]? = some (.cells (Words ws) T fr)) (h : ws[i]? = some x) : w.cell? ⟨b, i, none⟩ = some (U x) := by
  rw [cell_of_row w b i _ T fr hb]; exact Words_at h
theorem conv_b (n : Nat) (W : World) : (convert 5 34 (B n)).run Tryd.prog W = .ok (U (BitVec.ofNat 32 n)) W := by
  simp [convert, run_underlying Tryd.underlying5, run_underlying Tryd.underlying34, B, U, Conv.intToInt, wrap_mod]
theorem shl_24 (x : W32) (W : World) : (binOp .shl 34 (U x) (.int .u64 24)).run Tryd.prog W = .ok (U (x <<< 24)) W := run_shl Tryd.prog 34 x .u64 24 (by decide) W
theorem shl_16 (x : W32) (W : World) : (binOp .shl 34 (U x) (.int .u64 16)).run Tryd.prog W = .ok (U (x <<< 16)) W := run_shl Tryd.prog 34 x .u64 16 (by decide) W
theorem shl_8 (x : W32) (W : World) : (binOp .shl 34 (U x) (.int .u64 8)).run Tryd.prog W = .ok (U (x <<< 8)) W := run_shl Tryd.prog 34 x .u64 8 (by decide) W
theorem shr_3 (x : W32) (W : World) : (binOp .shr 34 (U x) (.int .u64 3)).run Tryd.prog W = .ok (U (x >>> 3)) W := run_shr Tryd.prog 34 x .u64 3 (by decide) W
theorem shr_10 (x : W32) (W : World) : (binOp .shr 34 (U x) (.int .u64 10)).run Tryd.prog W = .ok (U (x >>> 10)) W := run_shr Tryd.prog 34 x .u64 10 (by decide) W
theorem set2_words {w : World} {b : Nat} {T : TypeId} {ws : List W32} {x z : W32} (h : w.heap[b]? = some (.cells (Words ws) T (0, 0))) : ((w.setCell ⟨b, 0, none⟩ (U x)).setCell ⟨b, 4, none⟩ (U z)).heap[b]? = some (.cells (Words ((ws.set 0 x).set 4 z)) T (0, 0)) := by
  have r1 := heap_setCell_same w b 0 _ T (U x) h
  rw [Words_set] at r1
  have r2 := heap_setCell_same _ b 4 _ T (U z) r1
  rw [Words_set] at r2
  exact r2
theorem set8_words {w : World} {b : Nat} {T : TypeId} {ws : List W32} {x0 x1 x2 x3 x4 x5 x6 x7 : W32} (h : w.heap[b]? = some (.cells (Words ws) T (0, 0))) (hl : ws.length = 8) : ((((((((w.setCell ⟨b, 0, none⟩ (U x0)).setCell ⟨b, 1, none⟩ (U x1)).setCell ⟨b, 2, none⟩ (U x2)).setCell ⟨b, 3, none⟩ (U x3)).setCell ⟨b, 4, none⟩ (U x4)).setCell ⟨b, 5, none⟩ (U x5)).setCell ⟨b, 6, none⟩ (U x6)).setCell ⟨b, 7, none⟩ (U x7)).heap[b]? = some (.cells (Words [x0, x1, x2, x3, x4, x5, x6, x7]) T (0, 0)) := by
  match ws, hl with
  | [y0, y1, y2, y3, y4, y5, y6, y7], _ =>
  have r := h
  replace r := heap_setCell_same _ b 0 _ T (U x0) r
  rw [Words_set] at r
  replace r := heap_setCell_same _ b 1 _ T (U x1) r
  rw [Words_set] at r
  replace r := heap_setCell_same _ b 2 _ T (U x2) r
  rw [Words_set] at r
  replace r := heap_setCell_same _ b 3 _ T (U x3) r
  rw [Words_set] at r
  replace r := heap_setCell_same _ b 4 _ T (U x4) r
  rw [Words_set] at r
  replace r := heap_setCell_same _ b 5 _ T (U x5) r
  rw [Words_set] at r
  replace r := heap_setCell_same _ b 6 _ T (U x6) r
  rw [Words_set] at r
  replace r := heap_setCell_same _ b 7 _ T (U x7) r
  rw [Words_set] at r
  exact r
theorem set8_fr (w : World) (b : Nat) (x0 x1 x2 x3 x4 x5 x6 x7 : Value) : Fr (fun k => k = b) w ((((((((w.setCell ⟨b, 0, none⟩ x0).setCell ⟨b, 1, none⟩ x1).setCell ⟨b, 2, none⟩ x2).setCell ⟨b, 3, none⟩ x3).setCell ⟨b, 4, none⟩ x4).setCell ⟨b, 5, none⟩ x5).setCell ⟨b, 6, none⟩ x6).setCell ⟨b, 7, none⟩ x7) :=
  ((((((((Fr.refl (fun k => k = b) w).set ⟨b, 0, none⟩ _ fun _ => rfl).set ⟨b, 1, none⟩ _ fun _ => rfl).set ⟨b, 2, none⟩ _ fun _ => rfl).set ⟨b, 3, none⟩ _ fun _ => rfl).set ⟨b, 4, none⟩ _ fun _ => rfl).set ⟨b, 5, none⟩ _ fun _ => rfl).set ⟨b, 6, none⟩ _ fun _ => rfl).set ⟨b, 7, none⟩ _ fun _ => rfl
theorem row_read {w : World} {b o : Nat} {T : TypeId} {cs : Array Value} {vs : List Value} (hb : w.heap[b]? = some (.cells cs T (0, 0))) (h : ∀ j v, vs[j]? = some v → cs[o + j]? = some v) : ∀ (W : World), W.heap = w.heap → ∀ (j : Nat) (v : Value), vs[j]? = some v → W.cell? ((⟨b, o, none⟩ : Addr).add j) = some v := fun W hW j v hj => by
  have hadd : (⟨b, o, none⟩ : Addr).add j = ⟨b, o + j, none⟩ := by unfold Addr.add; split <;> simp_all
  rw [hadd]
  have : W.heap[b]? = some (.cells cs T (0, 0)) := by rw [hW]; exact hb
  rw [cell_of_row _ b _ cs T (0, 0) this]
  exact h j v hj
/-- words written, zeros behind -/
def PW (l : List W32) : List W32 := l ++ List.replicate (64 - l.length) 0
theorem PW_at {l : List W32} {i : Nat} {x : W32} (h : l[i]? = some x) : (PW l)[i]? = some x := by
  unfold PW; rw [List.getElem?_append_left (List.getElem?_eq_some_iff.1 h).1]; exact h
theorem PW_set (l : List W32) (x : W32) (h : l.length < 64) : (PW l).set l.length x = PW (l ++ [x]) := by
  unfold PW
  rw [List.set_append_right _ _ (Nat.le_refl _), Nat.sub_self, show 64 - l.length = (64 - (l ++ [x]).length) + 1 by simp; omega, List.replicate_succ, List.set_cons_zero]
  simp
theorem PW_next (l : List W32) (h : l.length < 64) : (PW l)[l.length]? = some 0 := by
  unfold PW; rw [List.getElem?_append_right (Nat.le_refl _), Nat.sub_self, List.getElem?_replicate, if_pos (by omega)]
/-- the next word is written -/
theorem pw_store {w : World} {b : Nat} {T : TypeId} {l : List W32} {i : Nat} (x : W32) (hb : w.heap[b]? = some (.cells (Words (PW l)) T (0, 0))) (hi : l.length = i) (h : i < 64) : (w.setCell ⟨b, i, none⟩ (U x)).heap[b]? = some (.cells (Words (PW (l ++ [x]))) T (0, 0)) := by
  subst hi
  have := heap_setCell_same w b l.length _ T (U x) hb
  rw [Words_set, PW_set _ _ h] at this
  exact this
theorem take_next {l : List W32} {i : Nat} {x : W32} (h : l[i]? = some x) : l.take (i + 1) = l.take i ++ [x] := by
  have hi := (List.getElem?_eq_some_iff.1 h).1
  rw [List.take_succ_eq_append_getElem hi, show l[i] = x by rw [List.getElem?_eq_getElem hi] at h; exact Option.some.inj h]
theorem PW_zero : PW [] = List.replicate 64 0 := rfl
theorem PW_length (l : List W32) (h : l.length ≤ 64) : (PW l).length = 64 := by unfold PW; simp; omega
theorem PW_full (l : List W32) (h : l.length = 64) : PW l = l := by unfold PW; simp [h]
def Eight.val (s : Eight) : Value := .agg #[U s.a, U s.b, U s.c, U s.d, U s.e, U s.f, U s.g, U s.h]
/-- the first i words added -/
def addU (s t : Eight) (i : Nat) : List W32 := (List.zipWith (· + ·) s.list t.list).take i ++ s.list.drop i
theorem addU_step (s t : Eight) (i : Nat) (hi : i < 8) : ∃ x y, t.list[i]? = some y ∧ (addU s t i)[i]? = some x ∧ (addU s t i).set i (x + y) = addU s t (i + 1) := by
  match i, hi with
  | 0, _ => exact ⟨_, _, rfl, rfl, rfl⟩
  | 1, _ => exact ⟨_, _, rfl, rfl, rfl⟩
  | 2, _ => exact ⟨_, _, rfl, rfl, rfl⟩
  | 3, _ => exact ⟨_, _, rfl, rfl, rfl⟩
  | 4, _ => exact ⟨_, _, rfl, rfl, rfl⟩
  | 5, _ => exact ⟨_, _, rfl, rfl, rfl⟩
  | 6, _ => exact ⟨_, _, rfl, rfl, rfl⟩
  | 7, _ => exact ⟨_, _, rfl, rfl, rfl⟩
theorem addU_end (s t : Eight) : addU s t 8 = (plus8 s t).list := rfl
theorem cells8 {w : World} {b : Nat} {T : TypeId} {s : Eight} (h : w.heap[b]? = some (.cells (Words s.list) T (0, 0))) : w.cell? ⟨b, 0, none⟩ = some (U s.a) ∧ w.cell? ⟨b, 1, none⟩ = some (U s.b) ∧ w.cell? ⟨b, 2, none⟩ = some (U s.c) ∧ w.cell? ⟨b, 3, none⟩ = some (U s.d) ∧ w.cell? ⟨b, 4, none⟩ = some (U s.e) ∧ w.cell? ⟨b, 5, none⟩ = some (U s.f) ∧ w.cell? ⟨b, 6, none⟩ = some (U s.g) ∧ w.cell? ⟨b, 7, none⟩ = some (U s.h) :=
  ⟨words_cell h rfl, words_cell h rfl, words_cell h rfl, words_cell h rfl, words_cell h rfl, words_cell h rfl, words_cell h rfl, words_cell h rfl⟩
def zero8 : Eight := ⟨0, 0, 0, 0, 0, 0, 0, 0⟩
end Go.Proofs.YtkhbkckcgfddlaaDoor
