/- what is too large; layers that are the same -/
import Derived.Test.YtbdimlppnhcicaaGreatDoorOnQ
namespace Go.Proofs.YtbdimlppnhcicaaGreatDoor
set_option linter.unusedVariables false
open Go.RowKit
/-! onion: what is too large; layers that are the same -/
def LargeP (a h : Nat) (w : World) (e : Ending) (w' : World) : Prop := ∃ b, e = .returned (.bool b) ∧ (b = false → a ≤ 40000 ∧ h ≤ 40) ∧ Below w.heap.size w w'
set_option maxRecDepth 100000 in
set_option maxHeartbeats 4000000 in
theorem large_any (oa : Option Addr) (A : List ByteArray) (ca : Nat) (oh : Option Addr) (H : List Hp) (ch : Nat) (w : World) (hA : StrsAt oa A w) (hAs : ∀ v ∈ A, v.size ≤ 140737488351232) (hH : HopsAt oh H w) (hHs : ∀ v ∈ H, v.chan.size ≤ 140737488351232 ∧ v.node.size ≤ 140737488351232) (hAl : A.length ≤ 9223372036854775807) (hHl : H.length ≤ 9223372036854775807) :
    Calls Tryz.prog 10 #[.slice oa A.length ca, .slice oh H.length ch] w (LargeP A.length H.length w) := by
  have HA := Lib.hid hA
  have HH := Lib.hid hH
  have HAS := Lib.hid hAs
  have HHS := Lib.hid hHs
  clear hA hH hAs hHs
  go_enter Tryz.func10, Tryz.ntmps10
  go_wp2
  go_loopw [5, 6] (fun nv iv wr => ∃ (i : Nat) (n : Int), i ≤ A.length ∧ iv = .int .i64 i ∧ nv = .int .i64 n ∧ (i : Int) ≤ n ∧ n ≤ 140737488400000 ∧ Hid (Below w.heap.size w wr)) (fun _ iv _ => A.length - (intOf iv).toNat)
  case atStart => exact ⟨0, 0, Nat.zero_le _, rfl, rfl, by omega, by omega, Below.refl _ _⟩
  case round =>
    obtain ⟨i, n, hi, rfl, rfl, hin, hn, hBl⟩ := hrel
    by_cases hlt : i < A.length
    · have hii : (i : Int) < (A.length : Int) := by omega
      by_cases hn4 : n ≤ 40000
      · obtain ⟨x, hx⟩ : ∃ x, A[i]? = some x := ⟨_, List.getElem?_eq_getElem hlt⟩
        have hne : A ≠ [] := by intro h; rw [h] at hlt; simp at hlt
        obtain ⟨ab, af, rfl, ha⟩ := (HA.out.below hBl.out).resolve_left hne
        have a0 := ha i x hx
        have hxs := HAS.out x (List.mem_of_getElem? hx)
        have hxi : (x.size : Int) ≤ 140737488351232 := by omega
        clear ha hx hne
        go_wp2_with fail
        go_roundw
        case rel => exact ⟨i + 1, _, by omega, by go_num, rfl, by omega, by omega, hBl.out⟩
        case measure => simp [intOf]; omega
      · have hn5 : 40000 < n := by omega
        have q1 := decN (n ≤ 40000) hn4
        go_wp2_with fail
        go_loopw [5, 7] (fun nv jv wr => ∃ (j : Nat) (n : Int), j ≤ H.length ∧ jv = .int .i64 j ∧ nv = .int .i64 n ∧ 0 ≤ n ∧ n ≤ 281474976800000 ∧ (n ≤ 40000 → (A.length : Int) ≤ 40000) ∧ Hid (Below w.heap.size w wr)) (fun _ jv _ => H.length - (intOf jv).toNat)
        case atStart => exact ⟨0, n, Nat.zero_le _, rfl, rfl, by omega, by omega, by omega, hBl.out⟩
        case round =>
          obtain ⟨j, m, hj, rfl, rfl, hm0, hm, hmA, hBm⟩ := hrel
          by_cases hlj : j < H.length
          · have hjj : (j : Int) < (H.length : Int) := by omega
            by_cases hm4 : m ≤ 40000
            · obtain ⟨x, hx⟩ : ∃ x, H[j]? = some x := ⟨_, List.getElem?_eq_getElem hlj⟩
              have hne : H ≠ [] := by intro h; rw [h] at hlj; simp at hlj
              obtain ⟨hb, hf, rfl, hh⟩ := (HH.out.below hBm.out).resolve_left hne
              obtain ⟨hr, hc1, hc2⟩ := hh j x hx
              have r0 : wr.cell? ⟨hb, hf + j * 4, none⟩ = some (.string x.chan) := hr 0 _ rfl
              have r1 : wr.cell? ⟨hb, hf + j * 4 + 1, none⟩ = some (.string x.node) := hr 1 _ rfl
              have hxs := HHS.out x (List.mem_of_getElem? hx)
              have hx1 : (x.chan.size : Int) ≤ 140737488351232 := by omega
              have hx2 : (x.node.size : Int) ≤ 140737488351232 := by omega
              clear hr hh hx hne hc1 hc2
              have hmA' := Lib.hid (hmA hm4)
              clear hmA
              go_wp2_with fail
              go_quiet (fail)
              go_wp2_with fail
              go_roundw
              case rel => exact ⟨j + 1, _, by omega, by go_num, rfl, by omega, by omega, fun _ => hmA'.out, below_drewN hBm.out _⟩
              case measure => simp [intOf]; omega
            · have hm5 : 40000 < m := by omega
              have q1 := decN (m ≤ 40000) hm4
              clear hmA
              go_wp2_with fail
              go_ret
              exact ⟨true, rfl, (fun h => by cases h), hBm.out⟩
          · obtain rfl : j = H.length := by omega
            have q0 := decN ((H.length : Int) < (H.length : Int)) (by omega)
            by_cases hm4 : m ≤ 40000
            · have hmA' := Lib.hid (hmA hm4)
              have q1 := decN (40000 < m) (by omega)
              clear hmA
              by_cases h40 : H.length ≤ 40
              · have q2 := decN ((40 : Int) < (H.length : Int)) (by omega)
                have h40i : (H.length : Int) ≤ 40 := by omega
                have HX : Hid (A.length ≤ 40000 ∧ H.length ≤ 40) := ⟨by have := hmA'.out; omega, h40⟩
                clear h40
                go_wp2_with fail
                go_ret
                exact ⟨false, rfl, fun _ => HX.out, hBm.out⟩
              · have h40i : (40 : Int) < (H.length : Int) := by omega
                clear h40
                go_wp2_with fail
                go_ret
                exact ⟨true, rfl, (fun h => by cases h), hBm.out⟩
            · have hm5 : 40000 < m := by omega
              clear hmA hm4
              go_wp2_with fail
              go_ret
              exact ⟨true, rfl, (fun h => by cases h), hBm.out⟩
    · obtain rfl : i = A.length := by omega
      have q0 := decN ((A.length : Int) < (A.length : Int)) (by omega)
      go_wp2_with fail
      go_loopw [5, 7] (fun nv jv wr => ∃ (j : Nat) (n : Int), j ≤ H.length ∧ jv = .int .i64 j ∧ nv = .int .i64 n ∧ 0 ≤ n ∧ n ≤ 281474976800000 ∧ (n ≤ 40000 → (A.length : Int) ≤ 40000) ∧ Hid (Below w.heap.size w wr)) (fun _ jv _ => H.length - (intOf jv).toNat)
      case atStart => exact ⟨0, n, Nat.zero_le _, rfl, rfl, by omega, by omega, by omega, hBl.out⟩
      case round =>
        obtain ⟨j, m, hj, rfl, rfl, hm0, hm, hmA, hBm⟩ := hrel
        by_cases hlj : j < H.length
        · have hjj : (j : Int) < (H.length : Int) := by omega
          by_cases hm4 : m ≤ 40000
          · obtain ⟨x, hx⟩ : ∃ x, H[j]? = some x := ⟨_, List.getElem?_eq_getElem hlj⟩
            have hne : H ≠ [] := by intro h; rw [h] at hlj; simp at hlj
            obtain ⟨hb, hf, rfl, hh⟩ := (HH.out.below hBm.out).resolve_left hne
            obtain ⟨hr, hc1, hc2⟩ := hh j x hx
            have r0 : wr.cell? ⟨hb, hf + j * 4, none⟩ = some (.string x.chan) := hr 0 _ rfl
            have r1 : wr.cell? ⟨hb, hf + j * 4 + 1, none⟩ = some (.string x.node) := hr 1 _ rfl
            have hxs := HHS.out x (List.mem_of_getElem? hx)
            have hx1 : (x.chan.size : Int) ≤ 140737488351232 := by omega
            have hx2 : (x.node.size : Int) ≤ 140737488351232 := by omega
            clear hr hh hx hne hc1 hc2
            have hmA' := Lib.hid (hmA hm4)
            clear hmA
            go_wp2_with fail
            go_quiet (fail)
            go_wp2_with fail
            go_roundw
            case rel => exact ⟨j + 1, _, by omega, by go_num, rfl, by omega, by omega, fun _ => hmA'.out, below_drewN hBm.out _⟩
            case measure => simp [intOf]; omega
          · have hm5 : 40000 < m := by omega
            have q1 := decN (m ≤ 40000) hm4
            clear hmA
            go_wp2_with fail
            go_ret
            exact ⟨true, rfl, (fun h => by cases h), hBm.out⟩
        · obtain rfl : j = H.length := by omega
          have q0 := decN ((H.length : Int) < (H.length : Int)) (by omega)
          by_cases hm4 : m ≤ 40000
          · have hmA' := Lib.hid (hmA hm4)
            have q1 := decN (40000 < m) (by omega)
            clear hmA
            by_cases h40 : H.length ≤ 40
            · have q2 := decN ((40 : Int) < (H.length : Int)) (by omega)
              have h40i : (H.length : Int) ≤ 40 := by omega
              have HX : Hid (A.length ≤ 40000 ∧ H.length ≤ 40) := ⟨by have := hmA'.out; omega, h40⟩
              clear h40
              go_wp2_with fail
              go_ret
              exact ⟨false, rfl, fun _ => HX.out, hBm.out⟩
            · have h40i : (40 : Int) < (H.length : Int) := by omega
              clear h40
              go_wp2_with fail
              go_ret
              exact ⟨true, rfl, (fun h => by cases h), hBm.out⟩
          · have hm5 : 40000 < m := by omega
            clear hmA hm4
            go_wp2_with fail
            go_ret
            exact ⟨true, rfl, (fun h => by cases h), hBm.out⟩
end Go.Proofs.YtbdimlppnhcicaaGreatDoor
