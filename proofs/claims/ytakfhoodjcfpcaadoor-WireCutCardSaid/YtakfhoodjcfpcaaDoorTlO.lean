/- tlv: the document's Size and Same. -/
import Derived.Test.YtakfhoodjcfpcaaDoorTlM
import Derived.Test.YtakfhoodjcfpcaaDoorPl
namespace Go.Proofs.YtakfhoodjcfpcaaDoor.T
open Go.RowKit Tlv

def sizeOne (z : Int) : Int := 1 + (if 4000 < z then 4000 else z)
def sizes (L : List Rec) : Nat := (L.map fun r => 1 + min r.body.length 4000).sum
theorem sizes_take (L : List Rec) (k : Nat) (r : Rec) (h : L[k]? = some r) : sizes (L.take (k + 1)) = sizes (L.take k) + (1 + min r.body.length 4000) := by
  have hk := (List.getElem?_eq_some_iff.1 h).1
  rw [List.take_succ_eq_append_getElem hk]
  have : L[k] = r := by rw [List.getElem?_eq_getElem hk] at h; exact Option.some.inj h
  simp [sizes, this]
theorem sizes_mono (L : List Rec) (k : Nat) : sizes (L.take k) ≤ sizes L := by
  have h : sizes L = sizes (L.take k) + sizes (L.drop k) := by
    unfold sizes
    rw [← List.sum_append, ← List.map_append, List.take_append_drop]
  omega
theorem sizes_len (L : List Rec) (h : sizes L ≤ 4000) : L.length + bodies L ≤ 4000 := by
  have key : ∀ M : List Rec, sizes M ≤ 4000 → M.length + bodies M = sizes M := by
    intro M
    induction M with
    | nil => intro _; rfl
    | cons r M ih =>
      intro h
      have e1 : sizes (r :: M) = 1 + min r.body.length 4000 + sizes M := by simp [sizes]
      have e2 : bodies (r :: M) = r.body.length + bodies M := by simp [bodies]
      have := ih (by omega)
      rw [List.length_cons]
      omega
  have := key L h
  omega
/-- how much these records hold, as far as it is no more than 4000 -/
def SizePost (L : List Rec) (w : World) (e : Ending) (w' : World) : Prop := ∃ n : Int, e = .returned (.int .i64 n) ∧ (4000 < n ↔ 4000 < sizes L) ∧ Below w.heap.size w w'
set_option maxRecDepth 100000 in
set_option maxHeartbeats 2000000 in
theorem size_any (a : Option Addr) (cp : Nat) (L : List Rec) (w : World) (hm : L.length ≤ maxLen) (hr : Recs w a L) : Calls Tryd.prog 19 #[.slice a L.length cp, .int .i64 4000] w (SizePost L w) := by
  have HR := Lib.hid hr
  clear hr
  unfold maxLen at hm
  go_enter Tryd.func19, Tryd.ntmps19
  go_wp2
  go_loopw [5, 6] (fun nv iv wr => ∃ (k : Nat) (y : Int), k ≤ L.length ∧ iv = .int .i64 k ∧ nv = .int .i64 y ∧ Hid (y = (sizes (L.take k) : Nat)) ∧ 0 ≤ y ∧ y ≤ 8001 ∧ wr = w) (fun _ iv _ => L.length - (intOf iv).toNat)
  case atStart => exact ⟨0, 0, Nat.zero_le _, rfl, rfl, by simp [Hid, sizes], by omega, by omega, rfl⟩
  case round =>
    obtain ⟨k, y, hk, rfl, rfl, hy, hy0, hy1, rfl⟩ := hrel
    by_cases hlt : k < L.length
    · by_cases h3 : y ≤ 4000
      · obtain ⟨r, hr⟩ : ∃ r, L[k]? = some r := ⟨_, List.getElem?_eq_getElem hlt⟩
        have hne : L ≠ [] := by intro h; rw [h] at hlt; simp at hlt
        obtain ⟨b, off, rfl, hrec⟩ := HR.out.resolve_left hne
        obtain ⟨ai, ci, c0, c1, cs, cl, cm⟩ := hrec k r hr
        obtain ⟨z, hz⟩ : ∃ z : Int, (r.body.length : Int) = z := ⟨_, rfl⟩
        have hz0 : 0 ≤ z := by omega
        have hst := sizes_take L k r hr
        have hnext : Hid (y + 1 + (if 4000 < z then 4000 else z) = ((sizes (L.take (k + 1)) : Nat) : Int)) := by
          have := hy.out; show _ = _; split <;> omega
        have hq0 : Hid (0 ≤ y + 1 + (if 4000 < z then 4000 else z)) := by show _ ≤ _; split <;> omega
        have hq1 : Hid (y + 1 + (if 4000 < z then 4000 else z) ≤ 8001) := by show _ ≤ _; split <;> omega
        have hkl : (k : Int) < (L.length : Int) := by omega
        clear hst hr hrec cs cl hy
        go_wp2_with fail
        go_roundw
        case rel => exact ⟨k + 1, _, by omega, by go_num, rfl, hnext, hq0.out, hq1.out, trivial⟩
        case measure => simp [intOf]; omega
      · have hkl : (k : Int) < (L.length : Int) := by omega
        have hbig : 4000 < sizes L := by have := sizes_mono L k; have := hy.out; omega
        have H : Hid (4000 < y ↔ 4000 < sizes L) := ⟨fun _ => hbig, fun _ => by omega⟩
        clear hbig hy
        go_wp2_with fail
        go_ret
        exact ⟨y, rfl, H.out, Below.refl _ _⟩
    · obtain rfl : k = L.length := by omega
      have H : Hid (4000 < y ↔ 4000 < sizes L) := by have := hy.out; rw [List.take_length] at this; show _ ↔ _; omega
      clear hy
      go_wp2_with fail
      go_ret
      exact ⟨y, rfl, H.out, Below.refl _ _⟩
set_option maxRecDepth 100000 in
set_option maxHeartbeats 2000000 in
/-- the same records, wherever they lie -/
theorem same_yes (a b : Option Addr) (ca cb : Nat) (L : List Rec) (w : World) (hm : L.length ≤ maxLen) (ha : Recs w a L) (hb : Recs w b L) : Calls Tryd.prog 33 #[.slice a L.length ca, .slice b L.length cb] w fun e w' => e = .returned (.bool true) ∧ Below w.heap.size w w' := by
  have HA := Lib.hid ha; have HB := Lib.hid hb
  clear ha hb
  unfold maxLen at hm
  go_enter Tryd.func33, Tryd.ntmps33
  go_wp2
  go_loopw [5] (fun iv wr => ∃ (k : Nat), k ≤ L.length ∧ iv = .int .i64 k ∧ Hid (Below w.heap.size w wr)) (fun iv _ => L.length - (intOf iv).toNat)
  case atStart => exact ⟨0, Nat.zero_le _, rfl, Below.refl _ _⟩
  case round =>
    obtain ⟨k, hk, rfl, hB⟩ := hrel
    by_cases hlt : k < L.length
    · obtain ⟨r, hr⟩ : ∃ r, L[k]? = some r := ⟨_, List.getElem?_eq_getElem hlt⟩
      have hne : L ≠ [] := by intro h; rw [h] at hlt; simp at hlt
      obtain ⟨b1, o1, rfl, hrec1⟩ := (HA.out.below hB.out).resolve_left hne
      obtain ⟨b2, o2, rfl, hrec2⟩ := (HB.out.below hB.out).resolve_left hne
      obtain ⟨ai, ci, c0, c1, cs, _, _⟩ := hrec1 k r hr
      obtain ⟨di, ei, d0, d1, ds, _, _⟩ := hrec2 k r hr
      have cv := fun n => conv_src (wr.drewN n) ai r.body ci (cs.below (below_drewN (Below.refl _ _) n))
      have dv := fun n => conv_src (wr.drewN n) di r.body ei (ds.below (below_drewN (Below.refl _ _) n))
      obtain ⟨x, hx⟩ : ∃ x : Int, (r.t : Int) = x := ⟨_, rfl⟩
      rw [hx] at c0 d0
      have hkl : (k : Int) < (L.length : Int) := by omega
      clear hr hrec1 hrec2 cs ds
      generalize (⟨r.body.toArray⟩ : ByteArray) = S at cv dv
      go_wp2_with fail
      go_quiet (fail)
      go_wp2
      go_roundw
      case rel => exact ⟨k + 1, by omega, by go_num, below_drewN hB.out _⟩
      case measure => simp [intOf]; omega
    · obtain rfl : k = L.length := by omega
      go_wp2_with fail
      go_ret
      exact ⟨rfl, hB.out⟩
end Go.Proofs.YtakfhoodjcfpcaaDoor.T
