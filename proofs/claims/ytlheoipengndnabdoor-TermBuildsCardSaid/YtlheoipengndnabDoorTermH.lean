import Derived.Test.YtlheoipengndnabDoorTermG
namespace Go.Proofs.YtlheoipengndnabDoor
open Go.RowKit
theorem size_of_list (t : ByteArray) (c : UInt8) (l : List UInt8) (ht : t.data.toList = c :: l) : 0 < t.size := by
  have : t.data.toList.length = t.size := by show _ = t.data.size; rw [Array.length_toList]
  rw [← this, ht]; simp
set_option maxRecDepth 100000 in
set_option maxHeartbeats 1000000 in
theorem fits_80 (n d : Int) (u k0 : ByteArray) (g km kc : Nat) (w : World) (hg : g < w.heap.size) (hkm : 0 < km) (hk0 : w.cell? ⟨g, 0, none⟩ = some (.string k0)) (c : UInt8) (l : List UInt8) (ht : k0.data.toList = c :: l) :
    Calls Tryd.prog 47 #[.agg #[.int .u8 80, .int .i64 n, .string u, .slice (some ⟨g, 0, none⟩) km kc, .int .i64 d]] w (fun e w' => Below w.heap.size w w' ∧ e = .returned (.bool (!(c == 86) && !(c == 75)))) := by
  have h0 := size_of_list k0 c l ht
  have hf := Lib.hid (first_byte k0 c l ht h0)
  rw [← beq_u8 c 86, ← beq_u8 c 75]
  obtain ⟨x, hx⟩ : ∃ x : Int, (c.toNat : Int) = x := ⟨_, rfl⟩
  have HX : Hid ((k0[0].toNat : Int) = x) := by rw [hf.out]; exact hx
  rw [hx]
  obtain ⟨o, ho⟩ : ∃ o, (!(x == ((86 : UInt8).toNat : Int)) && !(x == ((75 : UInt8).toNat : Int))) = o := ⟨_, rfl⟩
  have HO := Lib.hid ho
  rw [ho]; clear ho hx hf ht
  go_enter Tryd.func47, Tryd.ntmps47
  go_wp2
  all_goals go_ret
  all_goals refine ⟨(Below.refl _ _).alloc (Nat.le_refl _) _, ?_⟩
  all_goals have hX := HX.out
  all_goals have hO := HO.out
  all_goals clear HX HO
  all_goals subst hO
  all_goals subst hX
  all_goals (first | rfl | (simp_all; done))
set_option maxRecDepth 100000 in
set_option maxHeartbeats 1000000 in
theorem fits_no (n d c : Int) (u : ByteArray) (kv : Value) (w : World) (h80 : c ≠ 80) (h88 : c ≠ 88) (h87 : c ≠ 87) (h76 : c ≠ 76) :
    Calls Tryd.prog 47 #[.agg #[.int .u8 c, .int .i64 n, .string u, kv, .int .i64 d]] w (fun e w' => Below w.heap.size w w' ∧ e = .returned (.bool true)) := by
  go_enter Tryd.func47, Tryd.ntmps47
  go_wp2
  go_ret
  exact ⟨(Below.refl _ _).alloc (Nat.le_refl _) _, rfl⟩
set_option maxRecDepth 100000 in
set_option maxHeartbeats 1000000 in
theorem fits_76 (n d : Int) (u k0 : ByteArray) (g km kc : Nat) (w : World) (hg : g < w.heap.size) (hkm : 0 < km) (hk0 : w.cell? ⟨g, 0, none⟩ = some (.string k0)) (c : UInt8) (l : List UInt8) (ht : k0.data.toList = c :: l) :
    Calls Tryd.prog 47 #[.agg #[.int .u8 76, .int .i64 n, .string u, .slice (some ⟨g, 0, none⟩) km kc, .int .i64 d]] w (fun e w' => Below w.heap.size w w' ∧ e = .returned (.bool (c == 80 || c == 87 || c == 76))) := by
  have HP : ∀ W, Hid (Calls Tryd.prog 33 #[.string k0] W _) := fun W => public_any k0 W c l ht
  obtain ⟨o, ho⟩ : ∃ o, (c == 80 || c == 87 || c == 76) = o := ⟨_, rfl⟩
  rw [ho] at HP ⊢
  clear ho ht
  go_enter Tryd.func47, Tryd.ntmps47
  go_wp2_with (go_at_call 33; (with_reducible refine Calls.mono (HP _).out ?_); rintro e w1 ⟨rfl, rfl⟩)
  go_ret
  exact ⟨(Below.refl _ _).alloc (Nat.le_refl _) _, rfl⟩
set_option maxRecDepth 100000 in
set_option maxHeartbeats 1000000 in
theorem fits_87 (n d : Int) (u k0 k1 : ByteArray) (g km kc : Nat) (w : World) (hg : g < w.heap.size) (hkm : 1 < km) (hk0 : w.cell? ⟨g, 0, none⟩ = some (.string k0)) (hk1 : w.cell? ⟨g, 1, none⟩ = some (.string k1)) (c c' : UInt8) (l l' : List UInt8) (ht : k0.data.toList = c :: l) (ht' : k1.data.toList = c' :: l') :
    Calls Tryd.prog 47 #[.agg #[.int .u8 87, .int .i64 n, .string u, .slice (some ⟨g, 0, none⟩) km kc, .int .i64 d]] w (fun e w' => Below w.heap.size w w' ∧ e = .returned (.bool ((c == 80 || c == 87 || c == 76) && (c' == 80 || c' == 87 || c' == 76)))) := by
  have HP : ∀ W, Hid (Calls Tryd.prog 33 #[.string k0] W _) := fun W => public_any k0 W c l ht
  have HQ : ∀ W, Hid (Calls Tryd.prog 33 #[.string k1] W _) := fun W => public_any k1 W c' l' ht'
  obtain ⟨o, ho⟩ : ∃ o, (c == 80 || c == 87 || c == 76) = o := ⟨_, rfl⟩
  obtain ⟨o', ho'⟩ : ∃ o, (c' == 80 || c' == 87 || c' == 76) = o := ⟨_, rfl⟩
  rw [ho] at HP ⊢
  rw [ho'] at HQ ⊢
  clear ho ht ho' ht'
  cases o with
  | false =>
    go_enter Tryd.func47, Tryd.ntmps47
    go_wp2_with (go_at_call 33; (with_reducible refine Calls.mono (HP _).out ?_); rintro e w1 ⟨rfl, rfl⟩)
    go_ret
    exact ⟨(Below.refl _ _).alloc (Nat.le_refl _) _, rfl⟩
  | true =>
    go_enter Tryd.func47, Tryd.ntmps47
    go_wp2_with (first | (go_at_call 33; (with_reducible refine Calls.mono (HP _).out ?_); rintro e w1 ⟨rfl, rfl⟩) | (go_at_call 33; (with_reducible refine Calls.mono (HQ _).out ?_); rintro e w1 ⟨rfl, rfl⟩))
    go_ret
    exact ⟨(Below.refl _ _).alloc (Nat.le_refl _) _, rfl⟩
end Go.Proofs.YtlheoipengndnabDoor
