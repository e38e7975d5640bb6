import Derived.Test.YtlheoipengndnabGreatDoorKnownA
/- term: TermKnown. -/
import Derived.Laws.AppendOwn
import Derived.Deep.AppendLies
import Derived.Deep.CutRange
namespace Go.Proofs.YtlheoipengndnabGreatDoor
set_option linter.unusedVariables false
open Go.RowKit
theorem hb_next {w W w' : World} (h : Hid (Below w.heap.size w W)) (k : Below W.heap.size W w') : Hid (Below w.heap.size w w') := h.out.trans (k.mono h.out.size)
theorem hb_alloc {w W : World} (h : Hid (Below w.heap.size w W)) {o : Obj} : Hid (Below w.heap.size w (W.alloc o)) := h.out.alloc h.out.size _
theorem hb_refl (w : World) : Hid (Below w.heap.size w w) := Below.refl _ _
def knownL : List ByteArray := [⟨#[110, 55, 59]⟩, ⟨#[110, 48, 59]⟩, ⟨#[110, 57, 50, 50, 51, 51, 55, 50, 48, 51, 54, 56, 53, 52, 55, 55, 53, 56, 48, 55, 59]⟩, ⟨#[116, 50, 58, 97, 98]⟩, ⟨#[116, 48, 58]⟩, ⟨#[84, 48, 58]⟩, ⟨#[84, 50, 58, 110, 55, 59, 110, 56, 59]⟩, ⟨#[80, 110, 55, 59]⟩, ⟨#[72, 110, 55, 59]⟩, ⟨#[83, 110, 49, 59, 116, 49, 58, 97]⟩, ⟨#[66, 110, 49, 59, 116, 49, 58, 97]⟩, ⟨#[88, 110, 49, 48, 59, 110, 57, 59]⟩, ⟨#[68, 110, 49, 59, 116, 49, 58, 120]⟩, ⟨#[86, 110, 49, 59, 110, 50, 59]⟩, ⟨#[87, 80, 110, 49, 59, 80, 110, 50, 59]⟩, ⟨#[75, 110, 49, 59, 116, 49, 58, 120]⟩, ⟨#[76, 80, 110, 49, 59, 116, 49, 58, 120]⟩, ⟨#[80, 80, 110, 49, 59]⟩, ⟨#[87, 87, 80, 110, 49, 59, 80, 110, 50, 59, 76, 80, 110, 51, 59, 110, 52, 59]⟩, ⟨#[75, 86, 110, 49, 59, 110, 50, 59, 116, 48, 58]⟩, ⟨#[88, 110, 49, 59, 110, 49, 59]⟩, ⟨#[86, 75, 110, 49, 59, 110, 50, 59, 86, 110, 51, 59, 110, 52, 59]⟩, ⟨#[80, 72, 110, 49, 59]⟩, ⟨#[110, 49, 48, 59]⟩, ⟨#[110, 57, 59]⟩]
def badL : List ByteArray := [⟨#[]⟩, ⟨#[110, 48, 55, 59]⟩, ⟨#[110, 59]⟩, ⟨#[110, 45, 49, 59]⟩, ⟨#[110, 43, 49, 59]⟩, ⟨#[110, 32, 49, 59]⟩, ⟨#[110, 57, 50, 50, 51, 51, 55, 50, 48, 51, 54, 56, 53, 52, 55, 55, 53, 56, 48, 56, 59]⟩, ⟨#[110, 57, 57, 57, 57, 57, 57, 57, 57, 57, 57, 57, 57, 57, 57, 57, 57, 57, 57, 57, 57, 59]⟩, ⟨#[110, 49]⟩, ⟨#[116, 51, 58, 97, 98]⟩, ⟨#[116, 48, 50, 58, 97, 98]⟩, ⟨#[116, 58]⟩, ⟨#[116, 49]⟩, ⟨#[116, 57, 50, 50, 51, 51, 55, 50, 48, 51, 54, 56, 53, 52, 55, 55, 53, 56, 48, 55, 58, 97]⟩, ⟨#[84, 49, 58]⟩, ⟨#[84, 48, 49, 58, 110, 49, 59]⟩, ⟨#[84, 51, 51, 58]⟩, ⟨#[84, 50, 58, 110, 49, 59]⟩, ⟨#[84, 49, 58, 110, 49, 59, 110, 50, 59]⟩, ⟨#[84]⟩, ⟨#[80]⟩, ⟨#[80, 86, 110, 49, 59, 110, 50, 59]⟩, ⟨#[80, 75, 110, 49, 59, 110, 50, 59]⟩, ⟨#[88, 110, 57, 59, 110, 49, 48, 59]⟩, ⟨#[87, 110, 49, 59, 80, 110, 50, 59]⟩, ⟨#[87, 80, 110, 49, 59, 110, 50, 59]⟩, ⟨#[76, 110, 49, 59, 110, 50, 59]⟩, ⟨#[110, 49, 59, 110, 50, 59]⟩, ⟨#[83]⟩, ⟨#[83, 110, 49, 59]⟩, ⟨#[81]⟩, ⟨#[97]⟩, ⟨#[110, 49, 59, 0]⟩]
theorem known_small : ∀ v ∈ knownL, v.size ≤ 100 := fun v hv => of_decide_eq_true (List.all_eq_true.1 (show (knownL.all fun v => decide (v.size ≤ 100)) = true by decide +kernel) v hv)
theorem bad_small : ∀ v ∈ badL, v.size ≤ 100 := fun v hv => of_decide_eq_true (List.all_eq_true.1 (show (badL.all fun v => decide (v.size ≤ 100)) = true by decide +kernel) v hv)
theorem bad_right : ∀ v ∈ badL, rightB v.data.toList = false := fun v hv => by
  have := List.all_eq_true.1 (show (badL.all fun v => !rightB v.data.toList) = true by decide +kernel) v hv
  simpa using this
theorem lat_of {w : World} {g : Nat} {L : List ByteArray} {t : TypeId} (h : w.heap[g]? = some (.cells (L.map Value.string).toArray t (0, 0))) : LAt g L w := by
  intro i hi
  rw [cell_of_row _ _ _ _ _ _ h]
  simp [List.getD_eq_getElem?_getD, List.getElem?_eq_getElem hi]
theorem ints_of {w : World} {g : Nat} {Z : List Int} {t : TypeId} (h : w.heap[g]? = some (.cells (Z.map (Value.int .i64)).toArray t (0, 0))) : ∀ i, i < Z.length → w.cell? ⟨g, i, none⟩ = some (.int .i64 (Z.getD i 0)) := by
  intro i hi
  rw [cell_of_row _ _ _ _ _ _ h]
  simp [List.getD_eq_getElem?_getD, List.getElem?_eq_getElem hi]
/-- H, so many times, then n1; -/
def deepL (n : Nat) : List UInt8 := List.replicate n 72 ++ [110, 49, 59]
theorem deep_right (j : Nat) (hj : j < 4) : rightB (deepL (61 + j)) = decide (62 + j ≤ 64) := by
  match j, hj with
  | 0, _ => decide +kernel
  | 1, _ => decide +kernel
  | 2, _ => decide +kernel
  | 3, _ => decide +kernel
theorem text_of (n : Nat) : ∃ x e, textV ⟨(List.replicate n (120 : UInt8)).toArray⟩ = .tuple #[.string x, .int .i64 e] ∧ (e = 0 ↔ n ≤ 4096) ∧ (n ≤ 5000 → x.size ≤ 5100) := by
  have hs : (⟨(List.replicate n (120 : UInt8)).toArray⟩ : ByteArray).size = n := by rw [← list_size, ba_list, List.length_replicate]
  unfold textV
  rw [hs]
  by_cases h : 4096 < n
  · rw [if_pos h]
    exact ⟨_, _, rfl, ⟨fun e => by simp at e, fun e => by omega⟩, fun _ => Nat.zero_le _⟩
  · rw [if_neg h]
    refine ⟨_, _, rfl, ⟨fun _ => by omega, fun _ => rfl⟩, fun _ => ?_⟩
    unfold textS
    have := itoa_size (n : Int) (by omega) (by omega)
    rw [ByteArray.size_append, ByteArray.size_append, ByteArray.size_append, size1, size1, hs]
    omega
theorem strs_row (vs : List ByteArray) (w : World) : StrsAt (some ⟨w.heap.size, 0, none⟩) vs (w.alloc (.cells (vs.map Value.string).toArray 22)) := by
  refine .inr ⟨w.heap.size, 0, rfl, fun k s hk => ?_⟩
  rw [cell_of_row _ _ _ _ _ _ (heap_alloc_at w _), Nat.zero_add]
  simp [hk]
/-- TermMakes of a fresh row -/
theorem makes_row (n : Int) (s : ByteArray) (vs : List ByteArray) (k : Nat) (W : World) (hk : vs.length = k) (hkm : k ≤ maxLen) (hs : s.size ≤ 20000) (hv : ∀ v ∈ vs, v.size ≤ 20000) (h1 : n ≤ 9223372036854775807) (hL : LibOk W) (hT : Tab W) :
    Calls Tryz.prog 8 #[.int .i64 n, .string s, .slice (some ⟨W.heap.size, 0, none⟩) k k] (W.alloc (.cells (vs.map Value.string).toArray 22)) fun e w' => e = .returned (.bool true) ∧ Below W.heap.size W w' :=
  (makes_any n s (some ⟨W.heap.size, 0, none⟩) vs k k _ hk hkm (by omega) (fun v h => by have := hv v h; omega) (strs_row vs W) h1 (hL.below (below_new' W _)) (hT.below (below_new' W _))).mono fun e w' ⟨he, hb⟩ => ⟨he, (below_new' W _).trans (hb.mono (by simp))⟩
theorem getD_62 (j : Nat) (hj : j < 4) : ([62, 63, 64, 65] : List Int).getD j 0 = ((62 + j : Nat) : Int) := by
  match j, hj with
  | 0, _ => rfl
  | 1, _ => rfl
  | 2, _ => rfl
  | 3, _ => rfl
theorem getD_4095 (j : Nat) (hj : j < 3) : ([4095, 4096, 4097] : List Int).getD j 0 = ((4095 + j : Nat) : Int) := by
  match j, hj with
  | 0, _ => rfl
  | 1, _ => rfl
  | 2, _ => rfl
theorem getD_31 (j : Nat) (hj : j < 3) : ([31, 32, 33] : List Int).getD j 0 = ((31 + j : Nat) : Int) := by
  match j, hj with
  | 0, _ => rfl
  | 1, _ => rfl
  | 2, _ => rfl
theorem deep_str (k : Nat) : (⟨(List.replicate k (72 : UInt8)).toArray⟩ : ByteArray) ++ ⟨#[110, 49, 59]⟩ = ⟨(deepL k).toArray⟩ := by
  apply ByteArray.ext; simp [deepL]
theorem rep_size (k : Nat) (c : UInt8) : (⟨(List.replicate k c).toArray⟩ : ByteArray).size = k := by rw [← list_size, ba_list, List.length_replicate]
def headsL : List ByteArray := [⟨#[84, 51, 49, 58]⟩, ⟨#[84, 51, 50, 58]⟩, ⟨#[84, 51, 51, 58]⟩]
theorem heads_small (j : Nat) : (headsL.getD j ⟨#[]⟩).size ≤ 100 := by
  match j with
  | 0 => decide
  | 1 => decide
  | 2 => decide
  | j + 3 => exact Nat.zero_le _
theorem own_cap {w : World} {base : Nat} {e : TypeId} {v : Value} {n : Nat} {xs : List Value} (h : w.ownsRow base e 1 v n xs) (hn : 0 < n) :
    ∃ g cap, v = .slice (some ⟨g, 0, none⟩) n cap ∧ g < w.heap.size ∧ n ≤ cap ∧ ∀ i x, xs[i]? = some x → w.cell? ⟨g, i, none⟩ = some x := by
  obtain ⟨g, cap, e1, e2, e3⟩ := own_cells h hn
  refine ⟨g, cap, e1, e2, ?_, e3⟩
  rcases h.2 with ⟨_, h⟩ | ⟨g', cap', cur, h1, _, _, h4, _⟩
  · omega
  · rw [e1] at h1; cases h1; exact h4
set_option maxRecDepth 100000 in
set_option maxHeartbeats 16000000 in
theorem termKnown_any (w : World) (hL : LibOk w) (hT : Tab w) : Calls Tryz.prog 3 #[] w fun e w' => e = .returned (.bool true) ∧ Below w.heap.size w w' := by
  have HL := Lib.hid hL
  have HT := Lib.hid hT
  have HO : Hid (∀ (a : ByteArray) W, a.size ≤ 20000 → LibOk W → Tab W → Calls Tryz.prog 5 #[.string a] W fun e w' => e = .returned (.bool true) ∧ Below W.heap.size W w') := fun a W h k t => opens_any a W (by unfold maxLen; omega) k t
  have HB : Hid (∀ (a b : ByteArray) W, a.size ≤ 20000 → b.size ≤ 20000 → LibOk W → Tab W → Calls Tryz.prog 7 #[.string a, .string b] W fun e w' => e = .returned (.bool true) ∧ Below W.heap.size W w') := fun a b W h h' k t => builds_any a b W (by unfold maxLen; omega) (by unfold maxLen; omega) k t
  have HAK : Hid (∀ (a b c : ByteArray) W, a.size ≤ 20000 → b.size ≤ 20000 → c.size ≤ 20000 → LibOk W → Tab W → Calls Tryz.prog 9 #[.string a, .string b, .string c] W fun e w' => e = .returned (.bool true) ∧ Below W.heap.size W w') := fun a b c W h h' h'' k t => asks_any a b c W (by unfold maxLen; omega) (by unfold maxLen; omega) (by unfold maxLen; omega) k t
  have HW := Lib.hid (fun W (h : LibOk W) (k : Tab W) => works_any W h k)
  obtain ⟨i0, hi0, hz0, hz1, hz2⟩ := info_parts Tryz.info22
  clear hL hT
  go_enter Tryz.func3, Tryz.ntmps3
  go_upto_region 2 with fail
  have B1 : Hid (Below w.heap.size w (w.alloc (.cells #[.string ⟨#[110, 55, 59]⟩, .string ⟨#[110, 48, 59]⟩, .string ⟨#[110, 57, 50, 50, 51, 51, 55, 50, 48, 51, 54, 56, 53, 52, 55, 55, 53, 56, 48, 55, 59]⟩, .string ⟨#[116, 50, 58, 97, 98]⟩, .string ⟨#[116, 48, 58]⟩, .string ⟨#[84, 48, 58]⟩, .string ⟨#[84, 50, 58, 110, 55, 59, 110, 56, 59]⟩, .string ⟨#[80, 110, 55, 59]⟩, .string ⟨#[72, 110, 55, 59]⟩, .string ⟨#[83, 110, 49, 59, 116, 49, 58, 97]⟩, .string ⟨#[66, 110, 49, 59, 116, 49, 58, 97]⟩, .string ⟨#[88, 110, 49, 48, 59, 110, 57, 59]⟩, .string ⟨#[68, 110, 49, 59, 116, 49, 58, 120]⟩, .string ⟨#[86, 110, 49, 59, 110, 50, 59]⟩, .string ⟨#[87, 80, 110, 49, 59, 80, 110, 50, 59]⟩, .string ⟨#[75, 110, 49, 59, 116, 49, 58, 120]⟩, .string ⟨#[76, 80, 110, 49, 59, 116, 49, 58, 120]⟩, .string ⟨#[80, 80, 110, 49, 59]⟩, .string ⟨#[87, 87, 80, 110, 49, 59, 80, 110, 50, 59, 76, 80, 110, 51, 59, 110, 52, 59]⟩, .string ⟨#[75, 86, 110, 49, 59, 110, 50, 59, 116, 48, 58]⟩, .string ⟨#[88, 110, 49, 59, 110, 49, 59]⟩, .string ⟨#[86, 75, 110, 49, 59, 110, 50, 59, 86, 110, 51, 59, 110, 52, 59]⟩, .string ⟨#[80, 72, 110, 49, 59]⟩, .string ⟨#[110, 49, 48, 59]⟩, .string ⟨#[110, 57, 59]⟩] 22))) := hb_alloc (hb_refl _)
  have H1 : Hid ((w.alloc (.cells #[.string ⟨#[110, 55, 59]⟩, .string ⟨#[110, 48, 59]⟩, .string ⟨#[110, 57, 50, 50, 51, 51, 55, 50, 48, 51, 54, 56, 53, 52, 55, 55, 53, 56, 48, 55, 59]⟩, .string ⟨#[116, 50, 58, 97, 98]⟩, .string ⟨#[116, 48, 58]⟩, .string ⟨#[84, 48, 58]⟩, .string ⟨#[84, 50, 58, 110, 55, 59, 110, 56, 59]⟩, .string ⟨#[80, 110, 55, 59]⟩, .string ⟨#[72, 110, 55, 59]⟩, .string ⟨#[83, 110, 49, 59, 116, 49, 58, 97]⟩, .string ⟨#[66, 110, 49, 59, 116, 49, 58, 97]⟩, .string ⟨#[88, 110, 49, 48, 59, 110, 57, 59]⟩, .string ⟨#[68, 110, 49, 59, 116, 49, 58, 120]⟩, .string ⟨#[86, 110, 49, 59, 110, 50, 59]⟩, .string ⟨#[87, 80, 110, 49, 59, 80, 110, 50, 59]⟩, .string ⟨#[75, 110, 49, 59, 116, 49, 58, 120]⟩, .string ⟨#[76, 80, 110, 49, 59, 116, 49, 58, 120]⟩, .string ⟨#[80, 80, 110, 49, 59]⟩, .string ⟨#[87, 87, 80, 110, 49, 59, 80, 110, 50, 59, 76, 80, 110, 51, 59, 110, 52, 59]⟩, .string ⟨#[75, 86, 110, 49, 59, 110, 50, 59, 116, 48, 58]⟩, .string ⟨#[88, 110, 49, 59, 110, 49, 59]⟩, .string ⟨#[86, 75, 110, 49, 59, 110, 50, 59, 86, 110, 51, 59, 110, 52, 59]⟩, .string ⟨#[80, 72, 110, 49, 59]⟩, .string ⟨#[110, 49, 48, 59]⟩, .string ⟨#[110, 57, 59]⟩] 22)).heap[w.heap.size]? = some (.cells #[.string ⟨#[110, 55, 59]⟩, .string ⟨#[110, 48, 59]⟩, .string ⟨#[110, 57, 50, 50, 51, 51, 55, 50, 48, 51, 54, 56, 53, 52, 55, 55, 53, 56, 48, 55, 59]⟩, .string ⟨#[116, 50, 58, 97, 98]⟩, .string ⟨#[116, 48, 58]⟩, .string ⟨#[84, 48, 58]⟩, .string ⟨#[84, 50, 58, 110, 55, 59, 110, 56, 59]⟩, .string ⟨#[80, 110, 55, 59]⟩, .string ⟨#[72, 110, 55, 59]⟩, .string ⟨#[83, 110, 49, 59, 116, 49, 58, 97]⟩, .string ⟨#[66, 110, 49, 59, 116, 49, 58, 97]⟩, .string ⟨#[88, 110, 49, 48, 59, 110, 57, 59]⟩, .string ⟨#[68, 110, 49, 59, 116, 49, 58, 120]⟩, .string ⟨#[86, 110, 49, 59, 110, 50, 59]⟩, .string ⟨#[87, 80, 110, 49, 59, 80, 110, 50, 59]⟩, .string ⟨#[75, 110, 49, 59, 116, 49, 58, 120]⟩, .string ⟨#[76, 80, 110, 49, 59, 116, 49, 58, 120]⟩, .string ⟨#[80, 80, 110, 49, 59]⟩, .string ⟨#[87, 87, 80, 110, 49, 59, 80, 110, 50, 59, 76, 80, 110, 51, 59, 110, 52, 59]⟩, .string ⟨#[75, 86, 110, 49, 59, 110, 50, 59, 116, 48, 58]⟩, .string ⟨#[88, 110, 49, 59, 110, 49, 59]⟩, .string ⟨#[86, 75, 110, 49, 59, 110, 50, 59, 86, 110, 51, 59, 110, 52, 59]⟩, .string ⟨#[80, 72, 110, 49, 59]⟩, .string ⟨#[110, 49, 48, 59]⟩, .string ⟨#[110, 57, 59]⟩] 22 (0, 0))) := heap_alloc_at w _
  generalize w.alloc (.cells #[.string ⟨#[110, 55, 59]⟩, .string ⟨#[110, 48, 59]⟩, .string ⟨#[110, 57, 50, 50, 51, 51, 55, 50, 48, 51, 54, 56, 53, 52, 55, 55, 53, 56, 48, 55, 59]⟩, .string ⟨#[116, 50, 58, 97, 98]⟩, .string ⟨#[116, 48, 58]⟩, .string ⟨#[84, 48, 58]⟩, .string ⟨#[84, 50, 58, 110, 55, 59, 110, 56, 59]⟩, .string ⟨#[80, 110, 55, 59]⟩, .string ⟨#[72, 110, 55, 59]⟩, .string ⟨#[83, 110, 49, 59, 116, 49, 58, 97]⟩, .string ⟨#[66, 110, 49, 59, 116, 49, 58, 97]⟩, .string ⟨#[88, 110, 49, 48, 59, 110, 57, 59]⟩, .string ⟨#[68, 110, 49, 59, 116, 49, 58, 120]⟩, .string ⟨#[86, 110, 49, 59, 110, 50, 59]⟩, .string ⟨#[87, 80, 110, 49, 59, 80, 110, 50, 59]⟩, .string ⟨#[75, 110, 49, 59, 116, 49, 58, 120]⟩, .string ⟨#[76, 80, 110, 49, 59, 116, 49, 58, 120]⟩, .string ⟨#[80, 80, 110, 49, 59]⟩, .string ⟨#[87, 87, 80, 110, 49, 59, 80, 110, 50, 59, 76, 80, 110, 51, 59, 110, 52, 59]⟩, .string ⟨#[75, 86, 110, 49, 59, 110, 50, 59, 116, 48, 58]⟩, .string ⟨#[88, 110, 49, 59, 110, 49, 59]⟩, .string ⟨#[86, 75, 110, 49, 59, 110, 50, 59, 86, 110, 51, 59, 110, 52, 59]⟩, .string ⟨#[80, 72, 110, 49, 59]⟩, .string ⟨#[110, 49, 48, 59]⟩, .string ⟨#[110, 57, 59]⟩] 22) = w1 at B1 H1 ⊢
  obtain ⟨g1, hg1⟩ : ∃ g, w.heap.size = g := ⟨_, rfl⟩
  rw [hg1] at H1 ⊢
  clear hg1
  have HAS := Lib.hid (asked_any g1 knownL w1 rfl known_small (lat_of (L := knownL) H1.out) (HL.out.below B1.out) (HT.out.below B1.out))
  go_upto_region 4 with (go_at_call 4; (with_reducible refine Calls.mono HAS.out ?_); rintro e w2 ⟨rfl, hb⟩; have B2 := hb_next B1 hb; clear hb)
  clear HAS H1
  go_wp2_with fail
  have B3 : Hid (Below w.heap.size w (w2.alloc (.cells #[.string ⟨#[]⟩, .string ⟨#[110, 48, 55, 59]⟩, .string ⟨#[110, 59]⟩, .string ⟨#[110, 45, 49, 59]⟩, .string ⟨#[110, 43, 49, 59]⟩, .string ⟨#[110, 32, 49, 59]⟩, .string ⟨#[110, 57, 50, 50, 51, 51, 55, 50, 48, 51, 54, 56, 53, 52, 55, 55, 53, 56, 48, 56, 59]⟩, .string ⟨#[110, 57, 57, 57, 57, 57, 57, 57, 57, 57, 57, 57, 57, 57, 57, 57, 57, 57, 57, 57, 57, 59]⟩, .string ⟨#[110, 49]⟩, .string ⟨#[116, 51, 58, 97, 98]⟩, .string ⟨#[116, 48, 50, 58, 97, 98]⟩, .string ⟨#[116, 58]⟩, .string ⟨#[116, 49]⟩, .string ⟨#[116, 57, 50, 50, 51, 51, 55, 50, 48, 51, 54, 56, 53, 52, 55, 55, 53, 56, 48, 55, 58, 97]⟩, .string ⟨#[84, 49, 58]⟩, .string ⟨#[84, 48, 49, 58, 110, 49, 59]⟩, .string ⟨#[84, 51, 51, 58]⟩, .string ⟨#[84, 50, 58, 110, 49, 59]⟩, .string ⟨#[84, 49, 58, 110, 49, 59, 110, 50, 59]⟩, .string ⟨#[84]⟩, .string ⟨#[80]⟩, .string ⟨#[80, 86, 110, 49, 59, 110, 50, 59]⟩, .string ⟨#[80, 75, 110, 49, 59, 110, 50, 59]⟩, .string ⟨#[88, 110, 57, 59, 110, 49, 48, 59]⟩, .string ⟨#[87, 110, 49, 59, 80, 110, 50, 59]⟩, .string ⟨#[87, 80, 110, 49, 59, 110, 50, 59]⟩, .string ⟨#[76, 110, 49, 59, 110, 50, 59]⟩, .string ⟨#[110, 49, 59, 110, 50, 59]⟩, .string ⟨#[83]⟩, .string ⟨#[83, 110, 49, 59]⟩, .string ⟨#[81]⟩, .string ⟨#[97]⟩, .string ⟨#[110, 49, 59, 0]⟩] 9))) := hb_alloc B2
  have H3 : Hid ((w2.alloc (.cells #[.string ⟨#[]⟩, .string ⟨#[110, 48, 55, 59]⟩, .string ⟨#[110, 59]⟩, .string ⟨#[110, 45, 49, 59]⟩, .string ⟨#[110, 43, 49, 59]⟩, .string ⟨#[110, 32, 49, 59]⟩, .string ⟨#[110, 57, 50, 50, 51, 51, 55, 50, 48, 51, 54, 56, 53, 52, 55, 55, 53, 56, 48, 56, 59]⟩, .string ⟨#[110, 57, 57, 57, 57, 57, 57, 57, 57, 57, 57, 57, 57, 57, 57, 57, 57, 57, 57, 57, 57, 59]⟩, .string ⟨#[110, 49]⟩, .string ⟨#[116, 51, 58, 97, 98]⟩, .string ⟨#[116, 48, 50, 58, 97, 98]⟩, .string ⟨#[116, 58]⟩, .string ⟨#[116, 49]⟩, .string ⟨#[116, 57, 50, 50, 51, 51, 55, 50, 48, 51, 54, 56, 53, 52, 55, 55, 53, 56, 48, 55, 58, 97]⟩, .string ⟨#[84, 49, 58]⟩, .string ⟨#[84, 48, 49, 58, 110, 49, 59]⟩, .string ⟨#[84, 51, 51, 58]⟩, .string ⟨#[84, 50, 58, 110, 49, 59]⟩, .string ⟨#[84, 49, 58, 110, 49, 59, 110, 50, 59]⟩, .string ⟨#[84]⟩, .string ⟨#[80]⟩, .string ⟨#[80, 86, 110, 49, 59, 110, 50, 59]⟩, .string ⟨#[80, 75, 110, 49, 59, 110, 50, 59]⟩, .string ⟨#[88, 110, 57, 59, 110, 49, 48, 59]⟩, .string ⟨#[87, 110, 49, 59, 80, 110, 50, 59]⟩, .string ⟨#[87, 80, 110, 49, 59, 110, 50, 59]⟩, .string ⟨#[76, 110, 49, 59, 110, 50, 59]⟩, .string ⟨#[110, 49, 59, 110, 50, 59]⟩, .string ⟨#[83]⟩, .string ⟨#[83, 110, 49, 59]⟩, .string ⟨#[81]⟩, .string ⟨#[97]⟩, .string ⟨#[110, 49, 59, 0]⟩] 9)).heap[w2.heap.size]? = some (.cells #[.string ⟨#[]⟩, .string ⟨#[110, 48, 55, 59]⟩, .string ⟨#[110, 59]⟩, .string ⟨#[110, 45, 49, 59]⟩, .string ⟨#[110, 43, 49, 59]⟩, .string ⟨#[110, 32, 49, 59]⟩, .string ⟨#[110, 57, 50, 50, 51, 51, 55, 50, 48, 51, 54, 56, 53, 52, 55, 55, 53, 56, 48, 56, 59]⟩, .string ⟨#[110, 57, 57, 57, 57, 57, 57, 57, 57, 57, 57, 57, 57, 57, 57, 57, 57, 57, 57, 57, 57, 59]⟩, .string ⟨#[110, 49]⟩, .string ⟨#[116, 51, 58, 97, 98]⟩, .string ⟨#[116, 48, 50, 58, 97, 98]⟩, .string ⟨#[116, 58]⟩, .string ⟨#[116, 49]⟩, .string ⟨#[116, 57, 50, 50, 51, 51, 55, 50, 48, 51, 54, 56, 53, 52, 55, 55, 53, 56, 48, 55, 58, 97]⟩, .string ⟨#[84, 49, 58]⟩, .string ⟨#[84, 48, 49, 58, 110, 49, 59]⟩, .string ⟨#[84, 51, 51, 58]⟩, .string ⟨#[84, 50, 58, 110, 49, 59]⟩, .string ⟨#[84, 49, 58, 110, 49, 59, 110, 50, 59]⟩, .string ⟨#[84]⟩, .string ⟨#[80]⟩, .string ⟨#[80, 86, 110, 49, 59, 110, 50, 59]⟩, .string ⟨#[80, 75, 110, 49, 59, 110, 50, 59]⟩, .string ⟨#[88, 110, 57, 59, 110, 49, 48, 59]⟩, .string ⟨#[87, 110, 49, 59, 80, 110, 50, 59]⟩, .string ⟨#[87, 80, 110, 49, 59, 110, 50, 59]⟩, .string ⟨#[76, 110, 49, 59, 110, 50, 59]⟩, .string ⟨#[110, 49, 59, 110, 50, 59]⟩, .string ⟨#[83]⟩, .string ⟨#[83, 110, 49, 59]⟩, .string ⟨#[81]⟩, .string ⟨#[97]⟩, .string ⟨#[110, 49, 59, 0]⟩] 9 (0, 0))) := heap_alloc_at w2 _
  generalize w2.alloc (.cells #[.string ⟨#[]⟩, .string ⟨#[110, 48, 55, 59]⟩, .string ⟨#[110, 59]⟩, .string ⟨#[110, 45, 49, 59]⟩, .string ⟨#[110, 43, 49, 59]⟩, .string ⟨#[110, 32, 49, 59]⟩, .string ⟨#[110, 57, 50, 50, 51, 51, 55, 50, 48, 51, 54, 56, 53, 52, 55, 55, 53, 56, 48, 56, 59]⟩, .string ⟨#[110, 57, 57, 57, 57, 57, 57, 57, 57, 57, 57, 57, 57, 57, 57, 57, 57, 57, 57, 57, 57, 59]⟩, .string ⟨#[110, 49]⟩, .string ⟨#[116, 51, 58, 97, 98]⟩, .string ⟨#[116, 48, 50, 58, 97, 98]⟩, .string ⟨#[116, 58]⟩, .string ⟨#[116, 49]⟩, .string ⟨#[116, 57, 50, 50, 51, 51, 55, 50, 48, 51, 54, 56, 53, 52, 55, 55, 53, 56, 48, 55, 58, 97]⟩, .string ⟨#[84, 49, 58]⟩, .string ⟨#[84, 48, 49, 58, 110, 49, 59]⟩, .string ⟨#[84, 51, 51, 58]⟩, .string ⟨#[84, 50, 58, 110, 49, 59]⟩, .string ⟨#[84, 49, 58, 110, 49, 59, 110, 50, 59]⟩, .string ⟨#[84]⟩, .string ⟨#[80]⟩, .string ⟨#[80, 86, 110, 49, 59, 110, 50, 59]⟩, .string ⟨#[80, 75, 110, 49, 59, 110, 50, 59]⟩, .string ⟨#[88, 110, 57, 59, 110, 49, 48, 59]⟩, .string ⟨#[87, 110, 49, 59, 80, 110, 50, 59]⟩, .string ⟨#[87, 80, 110, 49, 59, 110, 50, 59]⟩, .string ⟨#[76, 110, 49, 59, 110, 50, 59]⟩, .string ⟨#[110, 49, 59, 110, 50, 59]⟩, .string ⟨#[83]⟩, .string ⟨#[83, 110, 49, 59]⟩, .string ⟨#[81]⟩, .string ⟨#[97]⟩, .string ⟨#[110, 49, 59, 0]⟩] 9) = w3 at B3 H3 ⊢
  obtain ⟨g3, hg3⟩ : ∃ g, w2.heap.size = g := ⟨_, rfl⟩
  rw [hg3] at H3 ⊢
  clear hg3
  have F3 := Lib.hid (lat_of (L := badL) H3.out)
  have hbl : badL.length = 33 := rfl
  go_loopw [24] (fun iv wr => ∃ (j : Nat), j ≤ 33 ∧ iv = .int .i64 (j : Int) ∧ Hid (Below w.heap.size w wr) ∧ Hid (LAt g3 badL wr)) (fun iv _ => 33 - (intOf iv).toNat)
  case atStart => exact ⟨0, by omega, rfl, B3.out, F3.out⟩
  case round =>
    obtain ⟨j, hj, rfl, hB, hA⟩ := hrel
    have LR := Lib.hid (HL.out.below hB.out)
    have TR := Lib.hid (HT.out.below hB.out)
    have BX := hb_refl wr
    by_cases hlt : j < 33
    · have c0 := hA.out j (by omega)
      obtain ⟨s, hs⟩ : ∃ s, badL.getD j ⟨#[]⟩ = s := ⟨_, rfl⟩
      have hmem : s ∈ badL := by
        rw [← hs, List.getD_eq_getElem?_getD, List.getElem?_eq_getElem (by omega)]
        exact List.getElem_mem _
      rw [hs] at c0
      have hsz := bad_small s hmem
      have hs2 : s.size ≤ 20000 := by omega
      have HR : Hid (∀ W, LibOk W → Calls Tryz.prog 6 #[.string s] W fun e w' => e = .returned (.bool false) ∧ Below W.heap.size W w') := fun W h => by rw [← bad_right s hmem]; exact right_any s W (by unfold maxLen; omega) h
      have HM : Hid (∀ W, LibOk W → Tab W → Calls Tryz.prog 8 #[.int .i64 (-1), .string s, .slice (some ⟨W.heap.size, 0, none⟩) 2 2] (W.alloc (.cells #[.string ⟨#[110, 49, 59]⟩, .string s] 22)) fun e w' => e = .returned (.bool true) ∧ Below W.heap.size W w') := fun W h t => makes_row (-1) s [⟨#[110, 49, 59]⟩, s] 2 W rfl (by decide) hs2 (by intro v hv; simp at hv; rcases hv with rfl | rfl; decide; exact hs2) (by omega) h t
      have b1 : (0 : Int) ≤ (j : Int) := by omega
      have b2 : (j : Int) < 33 := by omega
      have z1 : 3 ≤ 20000 := by omega
      clear hs hmem hsz
      go_wp2_with (first
        | (go_at_call 5; (with_reducible refine Calls.mono (HO.out _ _ (by first | assumption | decide) (LR.out.below (Hid.out (by first | assumption | (refine hb_alloc ?_; assumption)))) (TR.out.below (Hid.out (by first | assumption | (refine hb_alloc ?_; assumption))))) ?_); rintro e w' ⟨rfl, hb⟩; have BX : Hid (Below wr.heap.size wr w') := hb_next (by assumption) hb; clear hb)
        | (go_at_call 6; (with_reducible refine Calls.mono (HR.out _ (LR.out.below (Hid.out (by first | assumption | (refine hb_alloc ?_; assumption))))) ?_); rintro e w' ⟨rfl, hb⟩; have BX : Hid (Below wr.heap.size wr w') := hb_next (by assumption) hb; clear hb)
        | (go_at_call 7; (with_reducible refine Calls.mono (HB.out _ _ _ (by first | assumption | decide) (by first | assumption | decide) (LR.out.below (Hid.out (by first | assumption | (refine hb_alloc ?_; assumption)))) (TR.out.below (Hid.out (by first | assumption | (refine hb_alloc ?_; assumption))))) ?_); rintro e w' ⟨rfl, hb⟩; have BX : Hid (Below wr.heap.size wr w') := hb_next (by assumption) hb; clear hb)
        | (go_at_call 8; (with_reducible refine Calls.mono (HM.out _ (LR.out.below (Hid.out (by assumption))) (TR.out.below (Hid.out (by assumption)))) ?_); rintro e w' ⟨rfl, hb⟩; have BX : Hid (Below wr.heap.size wr w') := hb_next (by assumption) hb; clear hb)
        | (go_at_call 9; (with_reducible refine Calls.mono (HAK.out _ _ _ _ (by first | assumption | decide) (by first | assumption | decide) (by first | assumption | decide) (LR.out.below (Hid.out (by first | assumption | (refine hb_alloc ?_; assumption)))) (TR.out.below (Hid.out (by first | assumption | (refine hb_alloc ?_; assumption))))) ?_); rintro e w' ⟨rfl, hb⟩; have BX : Hid (Below wr.heap.size wr w') := hb_next (by assumption) hb; clear hb))
      go_roundw
      case rel => exact ⟨j + 1, by omega, by congr 1, (hb_next hB BX.out).out, hA.out.below BX.out⟩
      case measure => simp [intOf]; omega
    · obtain rfl : j = 33 := by omega
      try rw [show ((33 : Nat) : Int) = 33 from rfl]
      clear F3 hbl BX LR TR
      obtain ⟨wa, rfl⟩ : ∃ wa : World, wa = wr := ⟨_, rfl⟩
      go_upto_region 11 with fail
      have B4 : Hid (Below w.heap.size w (wa.alloc (.cells #[.int .i64 62, .int .i64 63, .int .i64 64, .int .i64 65] 3))) := hb_alloc hB
      have H4 : Hid ((wa.alloc (.cells #[.int .i64 62, .int .i64 63, .int .i64 64, .int .i64 65] 3)).heap[wa.heap.size]? = some (.cells #[.int .i64 62, .int .i64 63, .int .i64 64, .int .i64 65] 3 (0, 0))) := heap_alloc_at wa _
      generalize wa.alloc (.cells #[.int .i64 62, .int .i64 63, .int .i64 64, .int .i64 65] 3) = w4 at B4 H4 ⊢
      obtain ⟨g4, hg4⟩ : ∃ g, wa.heap.size = g := ⟨_, rfl⟩
      rw [hg4] at H4 ⊢
      clear hg4
      have F4 := Lib.hid (ints_of (Z := [62, 63, 64, 65]) H4.out)
      clear hA hB
      go_loopw [65] (fun iv wr => ∃ (j : Nat), j ≤ 4 ∧ iv = .int .i64 (j : Int) ∧ Hid (Below w.heap.size w wr) ∧ Hid (Below w4.heap.size w4 wr)) (fun iv _ => 4 - (intOf iv).toNat)
      case atStart => exact ⟨0, by omega, rfl, B4.out, Below.refl _ _⟩
      case round =>
        obtain ⟨j, hj, rfl, hB, hC⟩ := hrel
        have LR := Lib.hid (HL.out.below hB.out)
        have TR := Lib.hid (HT.out.below hB.out)
        have BX := hb_refl wr
        by_cases hlt : j < 4
        · have c0 := cell_later' hC.out (F4.out j (by simpa using hlt))
          rw [getD_62 j hlt] at c0
          obtain ⟨nz, hnz⟩ : ∃ nz : Int, ((62 + j : Nat) : Int) = nz := ⟨_, rfl⟩
          rw [hnz] at c0
          obtain ⟨k, hk⟩ : ∃ k, 61 + j = k := ⟨_, rfl⟩
          have hk1 : nz - 1 = (k : Int) := by omega
          have hn1 : 62 ≤ nz := by omega
          have hn2 : nz ≤ 65 := by omega
          have hkk : k ≤ 64 := by omega
          have HROW := Lib.hid (fun W => row_any 72 k (by omega) W)
          have h72 : ((72 : UInt8).toNat : Int) = 72 := rfl
          rw [h72] at HROW
          have hdr := deep_right j hlt
          rw [hk] at hdr
          have hus := rep_size k 72
          have hdd := deep_str k
          generalize (⟨(List.replicate k (72 : UInt8)).toArray⟩ : ByteArray) = u at HROW hus hdd
          have c1 := cat_any u ⟨#[110, 49, 59]⟩ (by rw [hus]; have : (⟨#[110, 49, 59]⟩ : ByteArray).size = 3 := rfl; omega)
          obtain ⟨d, hd⟩ : ∃ d, u ++ ⟨#[110, 49, 59]⟩ = d := ⟨_, rfl⟩
          rw [hd] at c1 hdd
          have hds : d.size ≤ 20000 := by
            have := congrArg ByteArray.size hd
            rw [ByteArray.size_append, hus] at this
            have : (⟨#[110, 49, 59]⟩ : ByteArray).size = 3 := rfl
            omega
          obtain ⟨b, hb⟩ : ∃ b, decide (62 + j ≤ 64) = b := ⟨_, rfl⟩
          have hq : decide (nz ≤ 64) = b := by rw [← hb, decide_eq_decide]; omega
          have HR : Hid (∀ W, LibOk W → Calls Tryz.prog 6 #[.string d] W fun e w' => e = .returned (.bool b) ∧ Below W.heap.size W w') := fun W h => by
            have := right_any d W (by unfold maxLen; omega) h
            rw [hdd, ba_list, hdr, hb] at this
            rw [hdd]; exact this
          have HM : Hid (∀ W, LibOk W → Tab W → Calls Tryz.prog 8 #[.int .i64 1, .string ⟨#[]⟩, .slice (some ⟨W.heap.size, 0, none⟩) 1 1] (W.alloc (.cells #[.string d] 22)) fun e w' => e = .returned (.bool true) ∧ Below W.heap.size W w') := fun W h t => makes_row 1 ⟨#[]⟩ [d] 1 W rfl (by decide) (by decide) (by intro v hv; simp at hv; rw [hv]; exact hds) (by omega) h t
          have b1 : (0 : Int) ≤ (j : Int) := by omega
          have b2 : (j : Int) < 4 := by omega
          have H1k := Lib.hid hk1
          clear hnz hk hdr hus hdd hd hb
          cases b
          all_goals
            go_wp2_with (first
              | (go_at_call 10; (with_reducible refine Calls.mono (HROW.out _) ?_); rintro e w' ⟨rfl, hb⟩; have BX : Hid (Below wr.heap.size wr w') := hb_next (by assumption) hb; clear hb)
              | (go_at_call 5; (with_reducible refine Calls.mono (HO.out _ _ (by first | assumption | decide) (LR.out.below (Hid.out (by first | assumption | (refine hb_alloc ?_; assumption)))) (TR.out.below (Hid.out (by first | assumption | (refine hb_alloc ?_; assumption))))) ?_); rintro e w' ⟨rfl, hb⟩; have BX : Hid (Below wr.heap.size wr w') := hb_next (by assumption) hb; clear hb)
              | (go_at_call 6; (with_reducible refine Calls.mono (HR.out _ (LR.out.below (Hid.out (by first | assumption | (refine hb_alloc ?_; assumption))))) ?_); rintro e w' ⟨rfl, hb⟩; have BX : Hid (Below wr.heap.size wr w') := hb_next (by assumption) hb; clear hb)
              | (go_at_call 7; (with_reducible refine Calls.mono (HB.out _ _ _ (by first | assumption | decide) (by first | assumption | decide) (LR.out.below (Hid.out (by first | assumption | (refine hb_alloc ?_; assumption)))) (TR.out.below (Hid.out (by first | assumption | (refine hb_alloc ?_; assumption))))) ?_); rintro e w' ⟨rfl, hb⟩; have BX : Hid (Below wr.heap.size wr w') := hb_next (by assumption) hb; clear hb)
              | (go_at_call 8; (with_reducible refine Calls.mono (HM.out _ (LR.out.below (Hid.out (by assumption))) (TR.out.below (Hid.out (by assumption)))) ?_); rintro e w' ⟨rfl, hb⟩; have BX : Hid (Below wr.heap.size wr w') := hb_next (by assumption) hb; clear hb))
            go_roundw
            case rel => exact ⟨j + 1, by omega, by congr 1, (hb_next hB BX.out).out, (hb_next hC BX.out).out⟩
            case measure => simp [intOf]; omega
        · obtain rfl : j = 4 := by omega
          try rw [show ((4 : Nat) : Int) = 4 from rfl]
          clear F4 BX LR TR hC
          obtain ⟨wb, rfl⟩ : ∃ wb : World, wb = wr := ⟨_, rfl⟩
          go_upto_region 18 with fail
          have B5 : Hid (Below w.heap.size w (wb.alloc (.cells #[.int .i64 4095, .int .i64 4096, .int .i64 4097] 3))) := hb_alloc hB
          have H5 : Hid ((wb.alloc (.cells #[.int .i64 4095, .int .i64 4096, .int .i64 4097] 3)).heap[wb.heap.size]? = some (.cells #[.int .i64 4095, .int .i64 4096, .int .i64 4097] 3 (0, 0))) := heap_alloc_at wb _
          generalize wb.alloc (.cells #[.int .i64 4095, .int .i64 4096, .int .i64 4097] 3) = w5 at B5 H5 ⊢
          obtain ⟨g5, hg5⟩ : ∃ g, wb.heap.size = g := ⟨_, rfl⟩
          rw [hg5] at H5 ⊢
          clear hg5
          have F5 := Lib.hid (ints_of (Z := [4095, 4096, 4097]) H5.out)
          clear hB
          go_loopw [102] (fun iv wr => ∃ (j : Nat), j ≤ 3 ∧ iv = .int .i64 (j : Int) ∧ Hid (Below w.heap.size w wr) ∧ Hid (Below w5.heap.size w5 wr)) (fun iv _ => 3 - (intOf iv).toNat)
          case atStart => exact ⟨0, by omega, rfl, B5.out, Below.refl _ _⟩
          case round =>
            obtain ⟨j, hj, rfl, hB, hC⟩ := hrel
            have LR := Lib.hid (HL.out.below hB.out)
            have TR := Lib.hid (HT.out.below hB.out)
            have BX := hb_refl wr
            by_cases hlt : j < 3
            · have c0 := cell_later' hC.out (F5.out j (by simpa using hlt))
              rw [getD_4095 j hlt] at c0
              obtain ⟨k, hk⟩ : ∃ k, 4095 + j = k := ⟨_, rfl⟩
              rw [hk] at c0
              have hk1 : k ≤ 5000 := by omega
              have HROW := Lib.hid (fun W => row_any 120 k (by omega) W)
              have h120 : ((120 : UInt8).toNat : Int) = 120 := rfl
              rw [h120] at HROW
              obtain ⟨x, e, hx, he, hxs⟩ := text_of k
              have hus := rep_size k 120
              generalize (⟨(List.replicate k (120 : UInt8)).toArray⟩ : ByteArray) = u at HROW hus hx
              have hu2 : u.size ≤ 20000 := by omega
              have hx2 : x.size ≤ 20000 := by have := hxs hk1; omega
              have HTX := Lib.hid (fun W (t : Tab W) => text_any u W (by unfold maxLen; omega) t)
              rw [hx] at HTX
              obtain ⟨b, hb⟩ : ∃ b, decide (k ≤ 4096) = b := ⟨_, rfl⟩
              have hq1 : (e == 0) = b := by
                rw [← hb]
                by_cases h : e = 0
                · rw [decide_eq_true (he.1 h), h]; rfl
                · rw [decide_eq_false (fun x => h (he.2 x))]; exact beq_eq_false_iff_ne.mpr h
              have hq2 : decide ((k : Int) ≤ 4096) = b := by rw [← hb, decide_eq_decide]; omega
              have HM3 : Hid (∀ W, LibOk W → Tab W → Calls Tryz.prog 8 #[.int .i64 1, .string u, .slice (some ⟨W.heap.size, 0, none⟩) 3 3] (W.alloc (.cells #[.string x, .string x, .string x] 22)) fun e w' => e = .returned (.bool true) ∧ Below W.heap.size W w') := fun W h t => makes_row 1 u [x, x, x] 3 W rfl (by decide) hu2 (by intro v hv; simp at hv; rw [hv]; exact hx2) (by omega) h t
              have HM4 : Hid (∀ W, LibOk W → Tab W → Calls Tryz.prog 8 #[.int .i64 1, .string ⟨#[]⟩, .slice (some ⟨W.heap.size, 0, none⟩) 4 4] (W.alloc (.cells #[.string x, .string x, .string x, .string x] 22)) fun e w' => e = .returned (.bool true) ∧ Below W.heap.size W w') := fun W h t => makes_row 1 ⟨#[]⟩ [x, x, x, x] 4 W rfl (by decide) (by decide) (by intro v hv; simp at hv; rw [hv]; exact hx2) (by omega) h t
              have b1 : (0 : Int) ≤ (j : Int) := by omega
              have b2 : (j : Int) < 3 := by omega
              have b3 : (k : Int) ≤ 5000 := by omega
              clear hk hus hx he hxs
              cases b
              all_goals
                first | (have hq3 := of_decide_eq_true hb) | (have hq3 := of_decide_eq_false hb)
                clear hb
                go_wp2_with (first
                  | (go_at_call 10; (with_reducible refine Calls.mono (HROW.out _) ?_); rintro e w' ⟨rfl, hb⟩; have BX : Hid (Below wr.heap.size wr w') := hb_next (by assumption) hb; clear hb)
                  | (go_at_call 11; (with_reducible refine Calls.mono (HTX.out _ (TR.out.below (Hid.out (by first | assumption | (refine hb_alloc ?_; assumption))))) ?_); rintro e w' ⟨rfl, hb⟩; have BX : Hid (Below wr.heap.size wr w') := hb_next (by assumption) hb; clear hb)
                  | (go_at_call 8; (with_reducible refine Calls.mono (HM3.out _ (LR.out.below (Hid.out (by assumption))) (TR.out.below (Hid.out (by assumption)))) ?_); rintro e w' ⟨rfl, hb⟩; have BX : Hid (Below wr.heap.size wr w') := hb_next (by assumption) hb; clear hb)
                  | (go_at_call 8; (with_reducible refine Calls.mono (HM4.out _ (LR.out.below (Hid.out (by assumption))) (TR.out.below (Hid.out (by assumption)))) ?_); rintro e w' ⟨rfl, hb⟩; have BX : Hid (Below wr.heap.size wr w') := hb_next (by assumption) hb; clear hb))
                go_roundw
                case rel => exact ⟨j + 1, by omega, by congr 1, (hb_next hB BX.out).out, (hb_next hC BX.out).out⟩
                case measure => simp [intOf]; omega
            · obtain rfl : j = 3 := by omega
              try rw [show ((3 : Nat) : Int) = 3 from rfl]
              clear F5 BX LR TR hC
              obtain ⟨wc, rfl⟩ : ∃ wc : World, wc = wr := ⟨_, rfl⟩
              go_wp2_with fail
              have BC := hB.out.size
              go_loopw [11, 12] (fun v iv wr => ∃ (j : Nat) (o0 : Option Addr) (c0 : Nat), j ≤ 34 ∧ iv = .int .i64 (j : Int) ∧ v = .slice o0 j c0 ∧ Hid (Below w.heap.size w wr) ∧ Hid (wc.heap.size ≤ wr.heap.size) ∧ Hid (wr.ownsRow wc.heap.size 22 1 (.slice o0 j c0) j (List.replicate j (Value.string ⟨#[110, 49, 59]⟩)))) (fun _ iv _ => 34 - (intOf iv).toNat)
              case atStart => exact ⟨0, none, 0, by omega, rfl, rfl, hB.out, Nat.le_refl _, World.ownsRow_nil _ _ _ _⟩
              case round =>
                obtain ⟨j, o0, cq, hj, rfl, rfl, hB2, hCZ, hO⟩ := hrel
                by_cases hlt : j < 34
                · have b1 : (0 : Int) ≤ (j : Int) := by omega
                  have b2 : (j : Int) < 34 := by omega
                  have hbz := hB2.out.size
                  have HOWB : Hid (∀ g, (Value.slice o0 j cq).ownBlock = some g → w.heap.size ≤ g) := fun g hg => Nat.le_trans BC (hO.out.lt g hg).1
                  have hcz : wc.heap.size ≤ wr.heap.size := hCZ.out
                  go_wp2_with (at_builtin; refine wpList_append_lies _ rfl _ _ _ rfl wc.heap.size 22 i0 _ 1 16 Tryz.underlying23 hi0 hz0 hz1 hz2 rfl (by omega) (.slice o0 j cq) j _ rfl (hO.out.alloc _) ⟨wr.heap.size, 0, none⟩ 1 1 [.string ⟨#[110, 49, 59]⟩] rfl rfl (World.news_of_block (cs := #[.string ⟨#[110, 49, 59]⟩]) (t := 22) (fr := (0, 0)) (heap_alloc_at wr _)) (by simp [Value.oneCell']) (by omega) (by unfold maxLen; omega) (by omega) (by simp; omega) (wr.heap.size + 1) (by simp) ?_; intro g7 cap7 w7 hown7 hgrow7 _ _; have HO7 := Lib.hid hown7; have BB7 : Hid (Below w.heap.size w w7) := (hB2.out.alloc hbz _).grown hgrow7 (by simp; omega) HOWB.out; have HC7 : Hid (wc.heap.size ≤ w7.heap.size) := Nat.le_trans hcz (Nat.le_trans (by simp) hgrow7.size); clear hown7 hgrow7)
                  go_roundw
                  case rel => exact ⟨j + 1, some ⟨g7, 0, none⟩, cap7, by omega, by congr 1, rfl, BB7.out, HC7.out, by rw [List.replicate_succ']; exact HO7.out⟩
                  case measure => simp [intOf]; omega
                · obtain rfl : j = 34 := by omega
                  try rw [show ((34 : Nat) : Int) = 34 from rfl]
                  obtain ⟨wd, rfl⟩ : ∃ wd : World, wd = wr := ⟨_, rfl⟩
                  obtain ⟨gm, cap, em, hgl, hcap, hcm⟩ := own_cap hO.out (by omega)
                  cases em
                  have SM : Hid (∀ k, k ≤ 34 → StrsAt (some ⟨gm, 0, none⟩) (List.replicate k ⟨#[110, 49, 59]⟩) wd) := fun k hk => .inr ⟨gm, 0, rfl, fun i s hs => by
                    rw [Nat.zero_add]
                    have hi := (List.getElem?_eq_some_iff.1 hs).1
                    rw [List.length_replicate] at hi
                    rw [List.getElem?_replicate, if_pos hi] at hs
                    cases hs
                    exact hcm i _ (by rw [List.getElem?_replicate, if_pos (by omega)])⟩
                  clear hcm
                  go_wp2_with fail
                  go_loop [13, 14] (fun x iv => ∃ (j : Nat) (u : ByteArray), j ≤ 33 ∧ iv = .int .i64 (j : Int) ∧ x = .string u ∧ u.size = 3 * j) (fun _ iv => 33 - (intOf iv).toNat)
                  case atStart => exact ⟨0, ⟨#[]⟩, by omega, rfl, rfl, rfl⟩
                  case round =>
                    obtain ⟨j, u, hj, rfl, rfl, hu⟩ := hrel
                    have HU := Lib.hid hu
                    by_cases hlt : j < 33
                    · have b1 : (0 : Int) ≤ (j : Int) := by omega
                      have b2 : (j : Int) < 33 := by omega
                      have c1 := cat_any u ⟨#[110, 49, 59]⟩ (by have : (⟨#[110, 49, 59]⟩ : ByteArray).size = 3 := rfl; omega)
                      clear hu
                      go_wp2_with fail
                      go_round
                      case rel => exact ⟨j + 1, u ++ ⟨#[110, 49, 59]⟩, by omega, by congr 1, rfl, by rw [ByteArray.size_append, HU.out]; have : (⟨#[110, 49, 59]⟩ : ByteArray).size = 3 := rfl; omega⟩
                      case measure => simp [intOf]; omega
                    · obtain rfl : j = 33 := by omega
                      try rw [show ((33 : Nat) : Int) = 33 from rfl]
                      clear hu
                      go_upto_region 36 with fail
                      have B7 : Hid (Below w.heap.size w ((wd.alloc (.cells #[.string ⟨#[84, 51, 49, 58]⟩, .string ⟨#[84, 51, 50, 58]⟩, .string ⟨#[84, 51, 51, 58]⟩] 9)).alloc (.cells #[.int .i64 31, .int .i64 32, .int .i64 33] 3))) := hb_alloc (hb_alloc hB2)
                      have BD : Hid (Below wd.heap.size wd ((wd.alloc (.cells #[.string ⟨#[84, 51, 49, 58]⟩, .string ⟨#[84, 51, 50, 58]⟩, .string ⟨#[84, 51, 51, 58]⟩] 9)).alloc (.cells #[.int .i64 31, .int .i64 32, .int .i64 33] 3))) := hb_alloc (hb_alloc (hb_refl wd))
                      have H6 : Hid (((wd.alloc (.cells #[.string ⟨#[84, 51, 49, 58]⟩, .string ⟨#[84, 51, 50, 58]⟩, .string ⟨#[84, 51, 51, 58]⟩] 9)).alloc (.cells #[.int .i64 31, .int .i64 32, .int .i64 33] 3)).heap[wd.heap.size]? = some (.cells #[.string ⟨#[84, 51, 49, 58]⟩, .string ⟨#[84, 51, 50, 58]⟩, .string ⟨#[84, 51, 51, 58]⟩] 9 (0, 0))) := (Below.heap_alloc _ _ _ (by simp)).trans (heap_alloc_at wd _)
                      have H7 : Hid (((wd.alloc (.cells #[.string ⟨#[84, 51, 49, 58]⟩, .string ⟨#[84, 51, 50, 58]⟩, .string ⟨#[84, 51, 51, 58]⟩] 9)).alloc (.cells #[.int .i64 31, .int .i64 32, .int .i64 33] 3)).heap[wd.heap.size + 1]? = some (.cells #[.int .i64 31, .int .i64 32, .int .i64 33] 3 (0, 0))) := by
                        have := heap_alloc_at (wd.alloc (.cells #[.string ⟨#[84, 51, 49, 58]⟩, .string ⟨#[84, 51, 50, 58]⟩, .string ⟨#[84, 51, 51, 58]⟩] 9)) (.cells #[.int .i64 31, .int .i64 32, .int .i64 33] 3)
                        rw [World.size_alloc] at this
                        exact this
                      generalize ((wd.alloc (.cells #[.string ⟨#[84, 51, 49, 58]⟩, .string ⟨#[84, 51, 50, 58]⟩, .string ⟨#[84, 51, 51, 58]⟩] 9)).alloc (.cells #[.int .i64 31, .int .i64 32, .int .i64 33] 3)) = w7 at B7 BD H6 H7 ⊢
                      obtain ⟨g7, hg7⟩ : ∃ g, wd.heap.size + 1 = g := ⟨_, rfl⟩
                      rw [hg7] at H7 ⊢
                      clear hg7
                      obtain ⟨g6, hg6⟩ : ∃ g, wd.heap.size = g := ⟨_, rfl⟩
                      rw [hg6] at H6 ⊢
                      clear hg6
                      have F6 := Lib.hid (lat_of (L := headsL) H6.out)
                      have F7 := Lib.hid (ints_of (Z := [31, 32, 33]) H7.out)
                      have S7 : Hid (∀ k, k ≤ 34 → StrsAt (some ⟨gm, 0, none⟩) (List.replicate k ⟨#[110, 49, 59]⟩) w7) := fun k hk => (SM.out k hk).below BD.out
                      clear hB hB2 hO hCZ SM BD H6 H7 BC hgl
                      go_loopw [153] (fun iv wr => ∃ (j : Nat), j ≤ 3 ∧ iv = .int .i64 (j : Int) ∧ Hid (Below w.heap.size w wr) ∧ Hid (Below w7.heap.size w7 wr)) (fun iv _ => 3 - (intOf iv).toNat)
                      case atStart => exact ⟨0, by omega, rfl, B7.out, Below.refl _ _⟩
                      case round =>
                        obtain ⟨j, hj, rfl, hB, hC⟩ := hrel
                        have LR := Lib.hid (HL.out.below hB.out)
                        have TR := Lib.hid (HT.out.below hB.out)
                        by_cases hlt : j < 3
                        · have c0 := cell_later' hC.out (F7.out j (by simpa using hlt))
                          rw [getD_31 j hlt] at c0
                          have c1 := cell_later' hC.out (F6.out j (by simpa [headsL] using hlt))
                          have hhs := heads_small j
                          generalize headsL.getD j ⟨#[]⟩ = h at c1 hhs
                          obtain ⟨nz, hnz⟩ : ∃ nz : Int, ((31 + j : Nat) : Int) = nz := ⟨_, rfl⟩
                          rw [hnz] at c0
                          obtain ⟨k, hk⟩ : ∃ k, 31 + j = k := ⟨_, rfl⟩
                          have hk1 : nz.toNat = k := by omega
                          have hn1 : 31 ≤ nz := by omega
                          have hn2 : nz ≤ 33 := by omega
                          have hjz : nz - 31 = (j : Int) := by omega
                          have hw0 : IntKind.i64.wrap (nz - 31) = (j : Int) := by rw [hjz]; exact IntWalk.i64_in _ (by omega)
                          have hw1 : IntKind.i64.wrap (3 * nz) = ((3 * k : Nat) : Int) := by
                            rw [show 3 * nz = ((3 * k : Nat) : Int) by omega]; exact IntWalk.i64_in _ (by omega)
                          have hw2 : 3 * nz = ((3 * k : Nat) : Int) := by omega
                          have hu3 : ((3 * k : Nat) : Int) ≤ (u.size : Int) := by rw [HU.out]; omega
                          have hu4 : (0 : Int) ≤ ((3 * k : Nat) : Int) := by omega
                          have hu5 : 3 * k ≤ u.size := by rw [HU.out]; omega
                          obtain ⟨m3, hm3⟩ : ∃ m, 3 * k = m := ⟨_, rfl⟩
                          rw [hm3] at hw1 hw2 hu3 hu4 hu5
                          have hes : (u.extract 0 m3).size = m3 := by rw [ByteArray.size_extract]; omega
                          have hsz3 : m3 ≤ 99 := by omega
                          obtain ⟨x, hx⟩ : ∃ x, u.extract 0 m3 = x := ⟨_, rfl⟩
                          rw [hx] at hes
                          have cc := cat_any h x (by omega)
                          obtain ⟨y, hy⟩ : ∃ y, h ++ x = y := ⟨_, rfl⟩
                          rw [hy] at cc
                          have hys : y.size ≤ 20000 := by
                            have := congrArg ByteArray.size hy
                            rw [ByteArray.size_append] at this
                            omega
                          have HOY := Lib.hid (fun W (l : LibOk W) (t : Tab W) => HO.out y W hys l t)
                          rw [← hy, ← hx] at HOY
                          have SR : Hid (StrsAt (some ⟨gm, 0, none⟩) (List.replicate k ⟨#[110, 49, 59]⟩) wr) := (S7.out k (by omega)).below hC.out
                          have HMK : Hid (∀ W, StrsAt (some ⟨gm, 0, none⟩) (List.replicate k ⟨#[110, 49, 59]⟩) W → LibOk W → Tab W → Calls Tryz.prog 8 #[.int .i64 nz, .string ⟨#[]⟩, .slice (some ⟨gm, 0, none⟩) k cq] W fun e w' => e = .returned (.bool true) ∧ Below W.heap.size W w') := fun W h1 l t => makes_any nz ⟨#[]⟩ (some ⟨gm, 0, none⟩) (List.replicate k ⟨#[110, 49, 59]⟩) k cq W (by rw [List.length_replicate]) (by unfold maxLen; omega) (by decide) (by intro v hv; rw [(List.mem_replicate.1 hv).2]; decide) h1 (by omega) l t
                          have b1 : (0 : Int) ≤ (j : Int) := by omega
                          have b2 : (j : Int) < 3 := by omega
                          have b3 : nz ≤ (cq : Int) := by have := hcap; omega
                          replace c1 := Later.cell c1
                          clear hnz hk hm3 hy hes hx
                          go_wp2_with fail
                          refine wp_region_later (by kernel_rfl) (by kernel_rfl) ?_
                          repeat (go_big_quiet_step (first
                            | (go_at_call 5; with_reducible exact calls_later (HOY.out _ (LR.out.below (Later.below _)) (TR.out.below (Later.below _))))
                            | (go_at_call 8; with_reducible exact calls_later (HMK.out _ (SR.out.below (Later.below _)) (LR.out.below (Later.below _)) (TR.out.below (Later.below _))))))
                          refine wpQuiet_nil ?_
                          intro _ hw'
                          obtain ⟨nq, rfl⟩ := hw'
                          have BX : Hid (Below wr.heap.size wr nq.at_) := nq.below
                          clear c1 c0
                          generalize nq.at_ = w9 at BX ⊢
                          go_wp2_with fail
                          go_roundw
                          case rel => exact ⟨j + 1, by omega, by congr 1, (hb_next hB BX.out).out, (hb_next hC BX.out).out⟩
                          case measure => simp [intOf]; omega
                        · obtain rfl : j = 3 := by omega
                          try rw [show ((3 : Nat) : Int) = 3 from rfl]
                          go_wp2_with (go_at_call 12; (with_reducible refine Calls.mono (HW.out _ LR.out TR.out) ?_); rintro e w8 ⟨rfl, hb⟩; have B8 := hb_next hB hb; clear hb)
                          go_ret
                          exact ⟨rfl, B8.out⟩
end Go.Proofs.YtlheoipengndnabGreatDoor
