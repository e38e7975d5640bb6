import Derived.Test.YtlheoipengndnabDoorTermF
import Derived.BigRegion
import Derived.Lib.Strings
namespace Go.Proofs.YtlheoipengndnabDoor
open Go.RowKit
theorem beq_u8 (a b : UInt8) : ((a.toNat : Int) == (b.toNat : Int)) = (a == b) := by
  rw [Bool.eq_iff_iff]
  simp only [beq_iff_eq]
  exact ⟨fun h => UInt8.toNat_inj.mp (by omega), fun h => (by rw [h])⟩
theorem first_byte (t : ByteArray) (c : UInt8) (l : List UInt8) (ht : t.data.toList = c :: l) (h0 : 0 < t.size) : t[0] = c := by
  have e : t.data.toList[0]? = some c := by rw [ht]; rfl
  have : t.data[0]? = some c := by simpa using e
  exact (Array.getElem?_eq_some_iff.mp this).2
set_option maxRecDepth 100000 in
set_option maxHeartbeats 1000000 in
theorem public_any (t : ByteArray) (w : World) (c : UInt8) (l : List UInt8) (ht : t.data.toList = c :: l) :
    Calls Tryd.prog 33 #[.string t] w (fun e w' => w' = w ∧ e = .returned (.bool (c == 80 || c == 87 || c == 76))) := by
  have hsz : t.size = l.length + 1 := by
    have : t.data.toList.length = t.size := by show _ = t.data.size; rw [Array.length_toList]
    rw [← this, ht]; rfl
  have h0 : 0 < t.size := by omega
  have hf := Lib.hid (first_byte t c l ht h0)
  rw [← beq_u8 c 80, ← beq_u8 c 87, ← beq_u8 c 76]
  obtain ⟨x, hx⟩ : ∃ x : Int, (c.toNat : Int) = x := ⟨_, rfl⟩
  have HX : Hid ((t[0].toNat : Int) = x) := by rw [hf.out]; exact hx
  rw [hx]
  obtain ⟨o, ho⟩ : ∃ o, (x == ((80 : UInt8).toNat : Int) || x == ((87 : UInt8).toNat : Int) || x == ((76 : UInt8).toNat : Int)) = o := ⟨_, rfl⟩
  have HO := Lib.hid ho
  rw [ho]; clear ho hx hf
  go_enter Tryd.func33, Tryd.ntmps33
  go_wp2
  all_goals go_ret
  all_goals refine ⟨rfl, ?_⟩
  all_goals have hX := HX.out
  all_goals have hO := HO.out
  all_goals clear HX HO
  all_goals subst hO
  all_goals subst hX
  all_goals (first | rfl | (simp_all; done))
end Go.Proofs.YtlheoipengndnabDoor
