import Derived.Test.YtlheoipengndnabDoorTermA
import Derived.BigRegion
import Derived.Lib.Strings
namespace Go.Proofs.YtlheoipengndnabDoor
open Go.RowKit

set_option maxRecDepth 100000 in
set_option maxHeartbeats 1000000 in
theorem text_no (rb xb at_ : Nat) (s : ByteArray) (op n d : Int) (t : ByteArray) (kv room : Value) (w : World) (hs : s.size ≤ 16384) (ha : at_ ≤ s.size) (hR : Rd rb s at_ w) (hX : Xs xb op n t kv d w) (hL : LibOk w) (hne : xb ≠ rb)
    (hn : num 58 (s.data.toList.drop at_) = none) :
    Calls Tryd.prog 56 #[.pointer (some ⟨rb, 0, none⟩), .pointer (some ⟨xb, 0, none⟩), room] w (FailPost rb xb s op w) := by
  have HC := Lib.hid (number_any rb at_ s 58 58 rfl (by decide) w hs ha hR hL)
  have HN := Lib.hid hn; have HX := Lib.hid hX; clear hn hX hR
  go_enter Tryd.func56, Tryd.ntmps56
  go_wp2_with (go_at_call 65; (with_reducible refine Calls.mono HC.out ?_); rintro e w1 ⟨hg, ⟨z, hz⟩, hno, _⟩; obtain ⟨m, rfl⟩ := hno HN.out; clear hno; have hx1 := HX.out.fr (Fr.grown (S := fun k => k = rb) hg rfl) (fun h => hne h); have HX1 := Lib.hid hx1; have HG := Lib.hid hg; have HZ := Lib.hid hz; clear hx1 hg hz)
  go_quiet (fail)
  go_wp2
  go_ret
  exact ⟨rfl, (Fr.grown HG.out (.inl rfl)).drewN _, z, n, d, t, kv, HZ.out.below (drewN_same _ _).1, HX1.out.fr (Fr.below (S := fun _ => False) (drewN_same _ _).1) (fun h => h)⟩
set_option maxRecDepth 100000 in
set_option maxHeartbeats 1000000 in
theorem text_many (rb xb at_ : Nat) (s : ByteArray) (op n d : Int) (t : ByteArray) (kv room : Value) (w : World) (hs : s.size ≤ 16384) (ha : at_ ≤ s.size) (hR : Rd rb s at_ w) (hX : Xs xb op n t kv d w) (hL : LibOk w) (hne : xb ≠ rb)
    (m : Nat) (rest : List UInt8) (hn : num 58 (s.data.toList.drop at_) = some (m, rest)) (hm : (4096 : Int) < m) :
    Calls Tryd.prog 56 #[.pointer (some ⟨rb, 0, none⟩), .pointer (some ⟨xb, 0, none⟩), room] w (FailPost rb xb s op w) := by
  have HC := Lib.hid (number_any rb at_ s 58 58 rfl (by decide) w hs ha hR hL)
  have HN := Lib.hid hn; have HX := Lib.hid hX; clear hn hX hR
  have q1 := decB (4096 < (m : Int)) hm
  go_enter Tryd.func56, Tryd.ntmps56
  go_wp2_with (go_at_call 65; (with_reducible refine Calls.mono HC.out ?_); rintro e w1 ⟨hg, _, _, hyes⟩; obtain ⟨rfl, a, ha', hz, hd⟩ := hyes _ _ HN.out; clear hyes; have hx1 := HX.out.fr (Fr.grown (S := fun k => k = rb) hg rfl) (fun h => hne h); have hxc := hx1.c.2.2.1; have hxf := hx1.f 2; have hzc0 := hz.c0; have hzc1 := hz.c1; have hzf := hz.f 1; have HX1 := Lib.hid hx1; have HG := Lib.hid hg; have HZ := Lib.hid hz; have HD := Lib.hid hd; clear hx1 hg hz hd)
  go_quiet (fail)
  go_wp2
  go_ret
  exact ⟨rfl, (Fr.grown HG.out (.inl rfl)).drewN _, a, n, d, t, kv, HZ.out.below (drewN_same _ _).1, HX1.out.fr (Fr.below (S := fun _ => False) (drewN_same _ _).1) (fun h => h)⟩
set_option maxRecDepth 100000 in
set_option maxHeartbeats 1000000 in
theorem text_short (rb xb at_ : Nat) (s : ByteArray) (op n d : Int) (t : ByteArray) (kv room : Value) (w : World) (hs : s.size ≤ 16384) (ha : at_ ≤ s.size) (hR : Rd rb s at_ w) (hX : Xs xb op n t kv d w) (hL : LibOk w) (hne : xb ≠ rb)
    (m : Nat) (rest : List UInt8) (hn : num 58 (s.data.toList.drop at_) = some (m, rest)) (hm : (m : Int) ≤ 4096) (hr : rest.length < m) :
    Calls Tryd.prog 56 #[.pointer (some ⟨rb, 0, none⟩), .pointer (some ⟨xb, 0, none⟩), room] w (FailPost rb xb s op w) := by
  have HC := Lib.hid (number_any rb at_ s 58 58 rfl (by decide) w hs ha hR hL)
  have HN := Lib.hid hn; have HX := Lib.hid hX; clear hn hX hR
  have q1 := decN (4096 < (m : Int)) (by omega)
  have hsz : s.data.toList.length = s.size := by show s.data.toList.length = s.data.size; rw [Array.length_toList]
  have HS := Lib.hid hsz; clear hsz
  go_enter Tryd.func56, Tryd.ntmps56
  go_wp2_with (go_at_call 65; (with_reducible refine Calls.mono HC.out ?_); rintro e w1 ⟨hg, _, _, hyes⟩; obtain ⟨rfl, a, ha', hz, hd⟩ := hyes _ _ HN.out; clear hyes; have hx1 := HX.out.fr (Fr.grown (S := fun k => k = rb) hg rfl) (fun h => hne h); have hxc := hx1.c.2.2.1; have hxf := hx1.f 2; have hzc0 := hz.c0; have hzc1 := hz.c1; have hzf := hz.f 1; have HX1 := Lib.hid hx1; have HG := Lib.hid hg; have HZ := Lib.hid hz; have HD := Lib.hid hd; clear hx1 hg hz hd; have q2 : decide ((s.size : Int) - (a : Int) < (m : Int)) = true := decB _ (by rw [← HD.out, List.length_drop, HS.out] at hr; omega))
  go_quiet (fail)
  go_wp2
  go_ret
  exact ⟨rfl, (Fr.grown HG.out (.inl rfl)).drewN _, a, n, d, t, kv, HZ.out.below (drewN_same _ _).1, HX1.out.fr (Fr.below (S := fun _ => False) (drewN_same _ _).1) (fun h => h)⟩
set_option maxRecDepth 100000 in
set_option maxHeartbeats 1000000 in
theorem text_yes (rb xb at_ : Nat) (s : ByteArray) (op n d : Int) (t : ByteArray) (kv room : Value) (w : World) (hs : s.size ≤ 16384) (ha : at_ ≤ s.size) (hR : Rd rb s at_ w) (hX : Xs xb op n t kv d w) (hL : LibOk w) (hne : xb ≠ rb)
    (m : Nat) (rest : List UInt8) (hn : num 58 (s.data.toList.drop at_) = some (m, rest)) (hm : (m : Int) ≤ 4096) (hr : m ≤ rest.length) :
    Calls Tryd.prog 56 #[.pointer (some ⟨rb, 0, none⟩), .pointer (some ⟨xb, 0, none⟩), room] w fun e w' => ∃ (a : Nat) (u : ByteArray), a ≤ s.size ∧ s.data.toList.drop a = rest.drop m ∧ u.data.toList = rest.take m ∧ e = .returned (.bool true) ∧ Fr (Two rb xb) w w' ∧ Rd rb s a w' ∧ Xs xb op n u kv d w' := by
  have HC := Lib.hid (number_any rb at_ s 58 58 rfl (by decide) w hs ha hR hL)
  have HN := Lib.hid hn; have HX := Lib.hid hX; clear hn hX hR
  have q1 := decN (4096 < (m : Int)) (by omega)
  have hsz : s.data.toList.length = s.size := by show s.data.toList.length = s.data.size; rw [Array.length_toList]
  have HS := Lib.hid hsz; clear hsz
  go_enter Tryd.func56, Tryd.ntmps56
  go_wp2_with (go_at_call 65; (with_reducible refine Calls.mono HC.out ?_); rintro e w1 ⟨hg, _, _, hyes⟩; obtain ⟨rfl, a, ha', hz, hd⟩ := hyes _ _ HN.out; clear hyes; have hx1 := HX.out.fr (Fr.grown (S := fun k => k = rb) hg rfl) (fun h => hne h); have hxc := hx1.c.2.2.1; have hxf := hx1.f 2; have hzc0 := hz.c0; have hzc1 := hz.c1; have hzf := hz.f 1; have HX1 := Lib.hid hx1; have HG := Lib.hid hg; have HZ := Lib.hid hz; have HD := Lib.hid hd; clear hx1 hg hz hd; have hle : a + m ≤ s.size := (by rw [← HD.out, List.length_drop, HS.out] at hr; omega); have q2 : decide ((s.size : Int) - (a : Int) < (m : Int)) = false := decN _ (by omega))
  go_quiet (fail)
  have b1 : (0 : Int) ≤ (a : Int) := by omega
  have b2 : (a : Int) + (m : Int) ≤ (s.size : Int) := by omega
  have b3 : IntKind.i64.wrap ((a : Int) + (m : Int)) = (a : Int) + (m : Int) := IntWalk.i64_in _ (by omega)
  have b4 : ((a : Int) + (m : Int)).toNat = a + m := by omega
  have b5 : (a : Int) ≤ (a : Int) + (m : Int) := by omega
  have b6 : a ≤ a + m := by omega
  have b8 : (0 : Int) ≤ (a : Int) + (m : Int) := by omega
  go_wp2_with fail
  go_region
  go_wp2
  go_ret
  refine ⟨a + m, s.extract a (a + m), hle, ?_, ?_, rfl, ?_, ?_, ?_⟩
  · rw [← HD.out, List.drop_drop]
  · rw [Lib.extract_data, HD.out]; congr 1; omega
  · exact (((Fr.grown HG.out (.inl rfl)).drewN _).set _ _ _ (.inr rfl)).set _ _ _ (.inl rfl)
  · rw [show ((a + m : Nat) : Int) = (a : Int) + (m : Int) by omega]
    exact ((HZ.out.below (drewN_same _ _).1).setX hne _ _).set _
  · exact ((HX1.out.fr (Fr.below (S := fun _ => False) (drewN_same _ _).1) (fun h => h)).setT _).setR hne _ _

end Go.Proofs.YtlheoipengndnabDoor
