/- term, the document's: fits. -/
import Derived.Test.YtlheoipengndnabDoorRefB
namespace Go.Proofs.YtlheoipengndnabDoor
set_option linter.unusedVariables false
open Go.RowKit
theorem below_box (w : World) (o : Obj) : Below w.heap.size w (w.alloc o) := (Below.refl _ _).alloc (Nat.le_refl _) o
set_option maxRecDepth 100000 in
set_option maxHeartbeats 1000000 in
theorem rfits_80 (e0 d0 n0 f0 : Int) (g km kc p at_ : Nat) (s : ByteArray) (w : World) (hg : g < w.heap.size) (hkm : 0 < km) (k0 : w.cell? ⟨g, 0, none⟩ = some (.int .i64 (p : Int))) (hat : at_ < s.size) (hp : p < s.size) (hc : s[at_] = 80) (c : UInt8) (hcp : s[p] = c) :
    Calls Tryd.prog 54 #[.string s, .int .i64 at_, .agg #[.int .i64 e0, .int .i64 d0, .int .u64 n0, .int .i64 f0, .slice (some ⟨g, 0, none⟩) km kc]] w (fun e w' => Below w.heap.size w w' ∧ e = .returned (.bool (!(c == 86) && !(c == 75)))) := by
  rw [← beq_u8 c 86, ← beq_u8 c 75]
  have e86 : (((86 : UInt8).toNat : Nat) : Int) = 86 := rfl
  have e75 : (((75 : UInt8).toNat : Nat) : Int) = 75 := rfl
  rw [e86, e75]
  obtain ⟨x, hx⟩ : ∃ x : Int, (c.toNat : Int) = x := ⟨_, rfl⟩
  rw [hx]
  have hati : (at_ : Int) < (s.size : Int) := by omega
  have hpi : (p : Int) < (s.size : Int) := by omega
  have hc80 : ((s[at_].toNat : Nat) : Int) = 80 := by rw [hc]; rfl
  clear e86 e75
  by_cases h1 : (x == 86) = true
  · have h1n : (x != 86) = false := by rw [bne, h1]; rfl
    rw [h1]
    clear h1
    go_enter Tryd.func54, Tryd.ntmps54
    go_wp2
    go_ret
    exact ⟨below_box _ _, rfl⟩
  · have h1' : (x == 86) = false := by simpa using h1
    have h1n : (x != 86) = true := by rw [bne, h1']; rfl
    rw [h1']
    clear h1 h1'
    by_cases h2 : (x == 75) = true
    · have h2n : (x != 75) = false := by rw [bne, h2]; rfl
      rw [h2]
      clear h2
      go_enter Tryd.func54, Tryd.ntmps54
      go_wp2
      go_ret
      exact ⟨below_box _ _, rfl⟩
    · have h2' : (x == 75) = false := by simpa using h2
      have h2n : (x != 75) = true := by rw [bne, h2']; rfl
      rw [h2']
      clear h2 h2'
      go_enter Tryd.func54, Tryd.ntmps54
      go_wp2
      go_ret
      exact ⟨below_box _ _, rfl⟩
set_option maxRecDepth 100000 in
set_option maxHeartbeats 1000000 in
theorem rfits_no (cut : Array Value) (hcut : ∃ e d n f k, cut = #[.int .i64 e, .int .i64 d, .int .u64 n, .int .i64 f, k]) (at_ : Nat) (s : ByteArray) (w : World) (hat : at_ < s.size) (c : UInt8) (hc : s[at_] = c) (h80 : c ≠ 80) (h88 : c ≠ 88) (h87 : c ≠ 87) (h76 : c ≠ 76) :
    Calls Tryd.prog 54 #[.string s, .int .i64 at_, .agg cut] w (fun e w' => Below w.heap.size w w' ∧ e = .returned (.bool true)) := by
  obtain ⟨e, d, n, f, k, rfl⟩ := hcut
  have ne : ∀ k : UInt8, c ≠ k → (c.toNat : Int) ≠ (k.toNat : Int) := fun k h h' => h (UInt8.toNat_inj.mp (by omega))
  have n80 : (c.toNat : Int) ≠ 80 := ne 80 h80
  have n88 : (c.toNat : Int) ≠ 88 := ne 88 h88
  have n87 : (c.toNat : Int) ≠ 87 := ne 87 h87
  have n76 : (c.toNat : Int) ≠ 76 := ne 76 h76
  have hati : (at_ : Int) < (s.size : Int) := by omega
  obtain ⟨x, hx⟩ : ∃ x : Int, (c.toNat : Int) = x := ⟨_, rfl⟩
  rw [hx] at n80 n88 n87 n76
  have b80 : (x == 80) = false := beq_eq_false_iff_ne.mpr n80
  have b88 : (x == 88) = false := beq_eq_false_iff_ne.mpr n88
  have b87 : (x == 87) = false := beq_eq_false_iff_ne.mpr n87
  have b76 : (x == 76) = false := beq_eq_false_iff_ne.mpr n76
  clear ne h80 h88 h87 h76 n80 n88 n87 n76
  go_enter Tryd.func54, Tryd.ntmps54
  go_wp2
  go_ret
  exact ⟨below_box _ _, rfl⟩
set_option maxRecDepth 100000 in
set_option maxHeartbeats 1000000 in
theorem rfits_76 (e0 d0 n0 f0 : Int) (g km kc p at_ : Nat) (s : ByteArray) (w : World) (hg : g < w.heap.size) (hkm : 0 < km) (k0 : w.cell? ⟨g, 0, none⟩ = some (.int .i64 (p : Int))) (hat : at_ < s.size) (hp : p < s.size) (hc : s[at_] = 76) (c : UInt8) (hcp : s[p] = c) :
    Calls Tryd.prog 54 #[.string s, .int .i64 at_, .agg #[.int .i64 e0, .int .i64 d0, .int .u64 n0, .int .i64 f0, .slice (some ⟨g, 0, none⟩) km kc]] w (fun e w' => Below w.heap.size w w' ∧ e = .returned (.bool (c == 80 || c == 87 || c == 76))) := by
  have HP := fun W => Lib.hid (rpublic_any W c)
  obtain ⟨o, ho⟩ : ∃ o, (c == 80 || c == 87 || c == 76) = o := ⟨_, rfl⟩
  rw [ho] at HP ⊢
  have hati : (at_ : Int) < (s.size : Int) := by omega
  have hpi : (p : Int) < (s.size : Int) := by omega
  have hc80 : ((s[at_].toNat : Nat) : Int) = 76 := by rw [hc]; rfl
  clear ho
  go_enter Tryd.func54, Tryd.ntmps54
  go_wp2_with (go_at_call 38; (with_reducible refine Calls.mono (HP _).out ?_); rintro e w1 ⟨rfl, rfl⟩)
  go_ret
  exact ⟨below_box _ _, rfl⟩
set_option maxRecDepth 100000 in
set_option maxHeartbeats 1000000 in
theorem rfits_87 (e0 d0 n0 f0 : Int) (g km kc p p1 at_ : Nat) (s : ByteArray) (w : World) (hg : g < w.heap.size) (hkm : 1 < km) (k0 : w.cell? ⟨g, 0, none⟩ = some (.int .i64 (p : Int))) (k1 : w.cell? ⟨g, 1, none⟩ = some (.int .i64 (p1 : Int))) (hat : at_ < s.size) (hp : p < s.size) (hp1 : p1 < s.size) (hc : s[at_] = 87) (c : UInt8) (hcp : s[p] = c) (c' : UInt8) (hcp' : s[p1] = c') :
    Calls Tryd.prog 54 #[.string s, .int .i64 at_, .agg #[.int .i64 e0, .int .i64 d0, .int .u64 n0, .int .i64 f0, .slice (some ⟨g, 0, none⟩) km kc]] w (fun e w' => Below w.heap.size w w' ∧ e = .returned (.bool ((c == 80 || c == 87 || c == 76) && (c' == 80 || c' == 87 || c' == 76)))) := by
  have HP := fun W => Lib.hid (rpublic_any W c)
  have HQ := fun W => Lib.hid (rpublic_any W c')
  obtain ⟨o, ho⟩ : ∃ o, (c == 80 || c == 87 || c == 76) = o := ⟨_, rfl⟩
  obtain ⟨o', ho'⟩ : ∃ o, (c' == 80 || c' == 87 || c' == 76) = o := ⟨_, rfl⟩
  rw [ho] at HP ⊢
  rw [ho'] at HQ ⊢
  have hati : (at_ : Int) < (s.size : Int) := by omega
  have hpi : (p : Int) < (s.size : Int) := by omega
  have hpi1 : (p1 : Int) < (s.size : Int) := by omega
  have hc80 : ((s[at_].toNat : Nat) : Int) = 87 := by rw [hc]; rfl
  clear ho ho'
  cases o with
  | false =>
    go_enter Tryd.func54, Tryd.ntmps54
    go_wp2_with (go_at_call 38; (with_reducible refine Calls.mono (HP _).out ?_); rintro e w1 ⟨rfl, rfl⟩)
    go_ret
    exact ⟨below_box _ _, rfl⟩
  | true =>
    have tok : True := trivial
    go_enter Tryd.func54, Tryd.ntmps54
    go_wp2_with (first | (go_at_call 38; have t1 := tok; (with_reducible refine Calls.mono (HP _).out ?_); rintro e w1 ⟨rfl, rfl⟩; clear tok t1) | (go_at_call 38; (with_reducible refine Calls.mono (HQ _).out ?_); rintro e w1 ⟨rfl, rfl⟩))
    go_ret
    exact ⟨below_box _ _, rfl⟩
theorem extract_list (s : ByteArray) (i j : Nat) : (s.extract i j).toList = (s.data.toList.drop i).take (j - i) := by
  rw [ByteArray.toList_eq, ByteArray.data_extract, Array.toList_extract]
set_option maxRecDepth 100000 in
set_option maxHeartbeats 1000000 in
theorem rfits_88 (e0 d0 n0 f0 : Int) (g km kc p p1 p2 at_ : Nat) (s : ByteArray) (w : World) (hg : g < w.heap.size) (hkm : 2 < km) (k0 : w.cell? ⟨g, 0, none⟩ = some (.int .i64 (p : Int))) (k1 : w.cell? ⟨g, 1, none⟩ = some (.int .i64 (p1 : Int))) (k2 : w.cell? ⟨g, 2, none⟩ = some (.int .i64 (p2 : Int))) (hat : at_ < s.size) (hp : p ≤ p1) (hp1 : p1 ≤ p2) (hp2 : p2 ≤ s.size) (hc : s[at_] = 88) :
    Calls Tryd.prog 54 #[.string s, .int .i64 at_, .agg #[.int .i64 e0, .int .i64 d0, .int .u64 n0, .int .i64 f0, .slice (some ⟨g, 0, none⟩) km kc]] w (fun e w' => Below w.heap.size w w' ∧ e = .returned (.bool (!(bytesLt ((s.data.toList.drop p1).take (p2 - p1)) ((s.data.toList.drop p).take (p1 - p)))))) := by
  rw [← extract_list, ← extract_list, ← leq_not_lt]
  have hati : (at_ : Int) < (s.size : Int) := by omega
  have hc80 : ((s[at_].toNat : Nat) : Int) = 88 := by rw [hc]; rfl
  have h1 : (p : Int) ≤ (p1 : Int) := by omega
  have h2 : (p1 : Int) ≤ (p2 : Int) := by omega
  have h3 : (p2 : Int) ≤ (s.size : Int) := by omega
  go_enter Tryd.func54, Tryd.ntmps54
  go_wp2
  go_quiet (fail)
  all_goals go_wp2
  all_goals go_ret
  exact ⟨below_drewN (below_box _ _) _, rfl⟩
end Go.Proofs.YtlheoipengndnabDoor
