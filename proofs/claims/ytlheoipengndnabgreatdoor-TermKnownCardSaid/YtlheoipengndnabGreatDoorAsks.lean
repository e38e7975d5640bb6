/- term: TermAsks. -/
import Derived.Test.YtlheoipengndnabGreatDoorWa
import Derived.Test.YtlheoipengndnabGreatDoorVa
namespace Go.Proofs.YtlheoipengndnabGreatDoor
set_option linter.unusedVariables false
open Go.RowKit
theorem unboxV_form (o : Option ByteArray) : ∃ s b, unboxV o = .tuple #[.string s, .bool b] := by
  cases o
  · exact ⟨_, _, rfl⟩
  · exact ⟨_, _, rfl⟩
set_option maxRecDepth 100000 in
set_option maxHeartbeats 4000000 in
theorem asks_long (p m s : ByteArray) (w : World) (hp : p.size ≤ maxLen) (hm : m.size ≤ maxLen) (hs : s.size ≤ maxLen) (h : 20000 < p.size ∨ 20000 < m.size ∨ 20000 < s.size) : Calls Tryz.prog 9 #[.string p, .string m, .string s] w fun e w' => e = .returned (.bool true) ∧ Below w.heap.size w w' := by
  unfold maxLen at hp hm hs
  by_cases h1 : (20000 : Int) < (p.size : Int)
  · go_enter Tryz.func9, Tryz.ntmps9
    go_wp2
    go_ret
    exact ⟨rfl, Below.refl _ _⟩
  · by_cases h2 : (20000 : Int) < (m.size : Int)
    · go_enter Tryz.func9, Tryz.ntmps9
      go_wp2
      go_ret
      exact ⟨rfl, Below.refl _ _⟩
    · have h3 : (20000 : Int) < (s.size : Int) := by omega
      go_enter Tryz.func9, Tryz.ntmps9
      go_wp2
      go_ret
      exact ⟨rfl, Below.refl _ _⟩
set_option maxRecDepth 100000 in
set_option maxHeartbeats 4000000 in
theorem asks_short (p m s : ByteArray) (w : World) (hp : p.size ≤ 20000) (hm : m.size ≤ 20000) (hs : s.size ≤ 20000) (hL : LibOk w) (hT : Tab w) : Calls Tryz.prog 9 #[.string p, .string m, .string s] w fun e w' => e = .returned (.bool true) ∧ Below w.heap.size w w' := by
  have h1 : ¬ (20000 : Int) < (p.size : Int) := by omega
  have h2 : ¬ (20000 : Int) < (m.size : Int) := by omega
  have h3 : ¬ (20000 : Int) < (s.size : Int) := by omega
  have hsm : s.size ≤ maxLen := by unfold maxLen; omega
  have HU := Lib.hid (fun W (h : LibOk W) => unbox_any p s W hsm h)
  have HU' := Lib.hid (fun W => runbox_any p s W hsm)
  have HV := Lib.hid (fun W (h : LibOk W) => verify_any p m s W hsm h)
  have HV' := Lib.hid (fun W => rverify_any p m s W hsm)
  have HW := Lib.hid (fun W (h : LibOk W) (k : Tab W) => works_any W h k)
  have HL := Lib.hid hL
  have HT := Lib.hid hT
  obtain ⟨u, b, hu⟩ := unboxV_form (unboxO p s)
  rw [hu] at HU HU'
  generalize verifyB p m s = v at HV HV'
  clear hu hL hT hsm
  go_enter Tryz.func9, Tryz.ntmps9
  go_wp2_with (first
    | (go_at_call 46; (with_reducible refine Calls.mono (HU.out _ HL.out) ?_); rintro e w1 ⟨rfl, hb⟩; have B1 : Hid (Below w.heap.size w w1) := hb; clear hb)
    | (go_at_call 47; (with_reducible refine Calls.mono (HU'.out _) ?_); rintro e w2 ⟨rfl, hb⟩; have B2 : Hid (Below w.heap.size w w2) := B1.out.trans (hb.mono B1.out.size); have L2 := Lib.hid (HL.out.below B2.out); clear hb)
    | (go_at_call 48; (with_reducible refine Calls.mono (HV.out _ L2.out) ?_); rintro e w3 ⟨rfl, hb⟩; have B3 : Hid (Below w.heap.size w w3) := B2.out.trans (hb.mono B2.out.size); clear hb)
    | (go_at_call 49; (with_reducible refine Calls.mono (HV'.out _) ?_); rintro e w4 ⟨rfl, hb⟩; have B4 : Hid (Below w.heap.size w w4) := B3.out.trans (hb.mono B3.out.size); have L4 := Lib.hid (HL.out.below B4.out); clear hb)
    | (go_at_call 12; (with_reducible refine Calls.mono (HW.out _ L4.out (HT.out.below B4.out)) ?_); rintro e w5 ⟨rfl, hb⟩; have B5 : Hid (Below w.heap.size w w5) := B4.out.trans (hb.mono B4.out.size); clear hb))
  go_ret
  exact ⟨rfl, B5.out⟩
theorem asks_any (p m s : ByteArray) (w : World) (hp : p.size ≤ maxLen) (hm : m.size ≤ maxLen) (hs : s.size ≤ maxLen) (hL : LibOk w) (hT : Tab w) : Calls Tryz.prog 9 #[.string p, .string m, .string s] w fun e w' => e = .returned (.bool true) ∧ Below w.heap.size w w' := by
  by_cases h : 20000 < p.size ∨ 20000 < m.size ∨ 20000 < s.size
  · exact asks_long p m s w hp hm hs h
  · exact asks_short p m s w (by omega) (by omega) (by omega) hL hT
end Go.Proofs.YtlheoipengndnabGreatDoor
