/- term: Bind, Hash, Joint, Bound; the document's One, Two, Pub, Joint, Bound, Agree. -/
import Derived.Test.YtbdimlppnhcicaaGreatDoorKeysP
import Derived.Test.YtbdimlppnhcicaaGreatDoorBa
import Derived.Test.YtbdimlppnhcicaaGreatDoorAgrees
import Derived.Test.YtbdimlppnhcicaaGreatDoorVa
import Derived.Test.YtbdimlppnhcicaaGreatDoorTa
import Derived.Test.YtbdimlppnhcicaaGreatDoorRa
namespace Go.Proofs.YtbdimlppnhcicaaGreatDoor
set_option linter.unusedVariables false
open Go.RowKit
theorem strs_one (a : ByteArray) (w : World) : StrsAt (some ⟨w.heap.size, 0, none⟩) [a] (w.alloc (.cells #[.string a] 23)) := by
  refine .inr ⟨w.heap.size, 0, rfl, fun k s hk => ?_⟩
  have hb := heap_alloc_at w (.cells #[.string a] 23)
  rw [cell_of_row _ _ _ _ _ _ hb, Nat.zero_add]
  match k, hk with
  | 0, hk => cases hk; rfl
/-- the first byte of a right term -/
theorem right_cons {a : ByteArray} (h : rt a = true) : ∃ c l, a.data.toList = c :: l ∧ pubK a = (c == 80 || c == 87 || c == 76) := by
  obtain ⟨x, hx⟩ := right_read h
  obtain ⟨l, e⟩ := read_head hx
  exact ⟨_, l, e, by unfold pubK; rw [e]; rfl⟩
theorem public_rt (a : ByteArray) (w : World) (h : rt a = true) : Calls Tryz.prog 208 #[.string a] w (fun e w' => w' = w ∧ e = .returned (.bool (pubK a))) := by
  obtain ⟨c, l, e, hp⟩ := right_cons h
  rw [hp]; exact public_any a w c l e
theorem op_str (c : UInt8) (w : World) : (convert 98 9 (.slice (some ⟨w.heap.size, 0, none⟩) 1 1)).run Tryz.prog (w.alloc (.cells #[.int .u8 c.toNat] 5)) = .ok (.string ⟨#[c]⟩) (w.alloc (.cells #[.int .u8 c.toNat] 5)) := by
  refine run_convert_bytes_back (w.alloc (.cells #[.int .u8 c.toNat] 5)) 98 9 5 ⟨w.heap.size, 0, none⟩ 1 [c] Tryz.underlying98 Tryz.underlying5 Tryz.underlying9 (fun j hj => ?_)
  obtain rfl : j = 0 := by simpa using hj
  rw [show (⟨w.heap.size, 0, none⟩ : Addr).add 0 = ⟨w.heap.size, 0, none⟩ from rfl]
  have hb := heap_alloc_at w (.cells #[.int .u8 c.toNat] 5)
  rw [cell_of_row _ _ _ _ _ _ hb]
  simp
theorem op_str' (z : Int) (c : UInt8) (h : (c.toNat : Int) = z) (w : World) : (convert 98 9 (.slice (some ⟨w.heap.size, 0, none⟩) 1 1)).run Tryz.prog (w.alloc (.cells #[.int .u8 z] 5)) = .ok (.string ⟨#[c]⟩) (w.alloc (.cells #[.int .u8 z] 5)) := by
  subst h; exact op_str c w
theorem buildL_one (c : UInt8) (a : ByteArray) : (⟨(buildL ⟨#[c]⟩ [a]).toArray⟩ : ByteArray) = ⟨#[c]⟩ ++ a := by
  apply ByteArray.ext; simp [buildL]
theorem buildL_two' (c : UInt8) (a b : ByteArray) : (⟨(buildL ⟨#[c]⟩ [a, b]).toArray⟩ : ByteArray) = ⟨#[c]⟩ ++ a ++ b := by
  apply ByteArray.ext; simp [buildL]
set_option maxRecDepth 100000 in
set_option maxHeartbeats 4000000 in
theorem rtwo_any (c : UInt8) (a b : ByteArray) (w : World) (ha : a.size ≤ maxLen) (hb : b.size ≤ maxLen) : Calls Tryz.prog 74 #[.int .u8 c.toNat, .string a, .string b] w fun e w' => e = .returned (buildV ⟨#[c]⟩ [a, b]) ∧ Below w.heap.size w w' := by
  have HA := Lib.hid (fun W => rright_any a W ha)
  have HB := Lib.hid (fun W => rright_any b W hb)
  obtain ⟨z, hz⟩ : ∃ z : Int, (c.toNat : Int) = z := ⟨_, rfl⟩
  have hcv := op_str' z c hz
  rw [hz]
  cases hra : rightB a.data.toList with
  | false =>
    rw [hra] at HA
    rw [buildV_wrong ⟨a, by simp, hra⟩]
    clear hra hz hcv
    go_enter Tryz.func74, Tryz.ntmps74
    go_wp2_with (go_at_call 70; (with_reducible refine Calls.mono (HA.out _) ?_); rintro e w1 ⟨rfl, hb⟩; have B1 : Hid (Below w.heap.size w w1) := hb; clear hb)
    go_ret2
    exact ⟨rfl, B1.out⟩
  | true =>
    rw [hra] at HA
    have hsz := right_size (v := a) hra
    cases hrb : rightB b.data.toList with
    | false =>
      rw [hrb] at HB
      rw [buildV_wrong ⟨b, by simp, hrb⟩]
      clear hra hrb hz hcv hsz
      go_enter Tryz.func74, Tryz.ntmps74
      go_wp2_with (first
        | (have hq := B1; (go_at_call 70; (with_reducible refine Calls.mono (HB.out _) ?_); rintro e w2 ⟨rfl, hb⟩; have B2 : Hid (Below w.heap.size w w2) := B1.out.trans (hb.mono B1.out.size); clear hb hq))
        | (go_at_call 70; (with_reducible refine Calls.mono (HA.out _) ?_); rintro e w1 ⟨rfl, hb⟩; have B1 : Hid (Below w.heap.size w w1) := hb; clear hb))
      go_ret2
      exact ⟨rfl, B2.out⟩
    | true =>
      rw [hrb] at HB
      have hsb := right_size (v := b) hrb
      rw [buildV_right (by intro v hv; simp at hv; rcases hv with rfl | rfl <;> assumption), buildL_two']
      have c1 := cat_any ⟨#[c]⟩ a (by rw [size1]; omega)
      have c2 := cat_any (⟨#[c]⟩ ++ a) b (by rw [ByteArray.size_append, size1]; omega)
      have HM := Lib.hid (fun W => madeV_any (⟨#[c]⟩ ++ a ++ b) W (by rw [ByteArray.size_append, ByteArray.size_append, size1]; unfold maxLen; omega))
      obtain ⟨s, n, hs⟩ := wholeV_form (⟨#[c]⟩ ++ a ++ b)
      rw [hs] at HM ⊢
      generalize (⟨#[c]⟩ : ByteArray) ++ a = u at c1 c2 HM
      generalize u ++ b = v at c2 HM
      clear hra hrb hsz hsb hs hz
      go_enter Tryz.func74, Tryz.ntmps74
      go_wp2_with (first
        | (have hq := B1; (go_at_call 70; (with_reducible refine Calls.mono (HB.out _) ?_); rintro e w2 ⟨rfl, hb⟩; have B2 : Hid (Below w.heap.size w w2) := B1.out.trans (hb.mono B1.out.size); clear hb hq))
        | (go_at_call 70; (with_reducible refine Calls.mono (HA.out _) ?_); rintro e w1 ⟨rfl, hb⟩; have B1 : Hid (Below w.heap.size w w1) := hb; clear hb)
        | (go_at_call 129; (with_reducible refine Calls.mono (HM.out _) ?_); rintro e w3 ⟨rfl, hb⟩; have B3 : Hid (Below w.heap.size w w3) := (B2.out.alloc B2.out.size _).trans (hb.mono (by have := B2.out.size; simp; omega)); clear hb))
      go_ret2
      exact ⟨rfl, B3.out⟩
set_option maxRecDepth 100000 in
set_option maxHeartbeats 4000000 in
theorem rpub_any (a : ByteArray) (w : World) (ha : a.size ≤ maxLen) : Calls Tryz.prog 181 #[.string a] w fun e w' => e = .returned (pubV a) ∧ Below w.heap.size w w' := by
  have HA := Lib.hid (fun W => rright_any a W ha)
  unfold pubV rt
  cases hra : rightB a.data.toList with
  | false =>
    rw [hra] at HA
    simp only [Bool.false_eq_true, if_false]
    clear hra
    go_enter Tryz.func181, Tryz.ntmps181
    go_wp2_with (go_at_call 70; (with_reducible refine Calls.mono (HA.out _) ?_); rintro e w1 ⟨rfl, hb⟩; have B1 : Hid (Below w.heap.size w w1) := hb; clear hb)
    go_ret2
    exact ⟨rfl, B1.out⟩
  | true =>
    rw [hra] at HA
    simp only [if_true]
    have hsz := keyS_size a hra
    have HK := Lib.hid (fun W => rkey_any a.size a W (Nat.le_refl _) hra)
    have HM := Lib.hid (fun W => madeV_any (keyS a) W (by unfold maxLen; omega))
    obtain ⟨s, n, hs⟩ := wholeV_form (keyS a)
    rw [hs] at HM ⊢
    generalize keyS a = u at HK HM
    clear hra hsz hs
    go_enter Tryz.func181, Tryz.ntmps181
    go_wp2_with (first
      | (go_at_call 70; (with_reducible refine Calls.mono (HA.out _) ?_); rintro e w1 ⟨rfl, hb⟩; have B1 : Hid (Below w.heap.size w w1) := hb; clear hb)
      | (go_at_call 194; (with_reducible refine Calls.mono (HK.out _) ?_); rintro e w2 ⟨rfl, hb⟩; have B2 : Hid (Below w.heap.size w w2) := B1.out.trans (hb.mono B1.out.size); clear hb)
      | (go_at_call 129; (with_reducible refine Calls.mono (HM.out _) ?_); rintro e w3 ⟨rfl, hb⟩; have B3 : Hid (Below w.heap.size w w3) := B2.out.trans (hb.mono B2.out.size); clear hb))
    go_ret2
    exact ⟨rfl, B3.out⟩
theorem rpublic_rt (a : ByteArray) (c : UInt8) (l : List UInt8) (e : a.data.toList = c :: l) (z : Int) (hz : (c.toNat : Int) = z) (w : World) : Calls Tryz.prog 191 #[.int .u8 z] w (fun e w' => w = w' ∧ e = .returned (.bool (pubK a))) := by
  subst hz
  have hp : pubK a = (c == 80 || c == 87 || c == 76) := by unfold pubK; rw [e]; rfl
  rw [hp]; exact rpublic_any w c
end Go.Proofs.YtbdimlppnhcicaaGreatDoor
