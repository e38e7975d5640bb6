/- term: Child, Join; the document's Tuple. -/
import Derived.Test.YtlheoipengndnaaDoorBldE
namespace Go.Proofs.YtlheoipengndnaaDoor
set_option linter.unusedVariables false
open Go.RowKit
set_option maxRecDepth 100000 in
set_option maxHeartbeats 2000000 in
theorem child_any (a b : ByteArray) (w : World) (ha : a.size ≤ maxLen) (hb : b.size ≤ maxLen) (hL : LibOk w) : Calls Tryd.prog 31 #[.string a, .string b] w fun e w' => e = .returned (buildV ⟨#[68]⟩ [a, b]) ∧ Below w.heap.size w w' := by
  have HB := Lib.hid (build_any ⟨#[68]⟩ (some ⟨w.heap.size, 0, none⟩) [a, b] 2 2 (w.alloc (.cells #[.string a, .string b] 22)) rfl (by omega) (by rw [size1]; omega) (by intro v hv; simp at hv; rcases hv with rfl | rfl <;> assumption) (strs_two a b w) (hL.below ((Below.refl _ _).alloc (Nat.le_refl _) _)))
  obtain ⟨s, n, hs⟩ := buildV_tuple ⟨#[68]⟩ [a, b]
  rw [hs] at HB ⊢
  clear hs hL ha hb
  go_enter Tryd.func31, Tryd.ntmps31
  go_wp2_with (go_at_call 39; (with_reducible refine Calls.mono HB.out ?_); rintro e w2 ⟨rfl, hb⟩; have B2 : Hid (Below w.heap.size w w2) := ((Below.refl _ _).alloc (Nat.le_refl _) _).trans (hb.mono (by simp)); clear hb)
  go_ret2
  exact ⟨rfl, B2.out⟩
set_option maxRecDepth 100000 in
set_option maxHeartbeats 2000000 in
theorem join_any (a b : ByteArray) (w : World) (ha : a.size ≤ maxLen) (hb : b.size ≤ maxLen) (hL : LibOk w) : Calls Tryd.prog 32 #[.string a, .string b] w fun e w' => e = .returned (buildV ⟨#[86]⟩ [a, b]) ∧ Below w.heap.size w w' := by
  have HB := Lib.hid (build_any ⟨#[86]⟩ (some ⟨w.heap.size, 0, none⟩) [a, b] 2 2 (w.alloc (.cells #[.string a, .string b] 22)) rfl (by omega) (by rw [size1]; omega) (by intro v hv; simp at hv; rcases hv with rfl | rfl <;> assumption) (strs_two a b w) (hL.below ((Below.refl _ _).alloc (Nat.le_refl _) _)))
  obtain ⟨s, n, hs⟩ := buildV_tuple ⟨#[86]⟩ [a, b]
  rw [hs] at HB ⊢
  clear hs hL ha hb
  go_enter Tryd.func32, Tryd.ntmps32
  go_wp2_with (go_at_call 39; (with_reducible refine Calls.mono HB.out ?_); rintro e w2 ⟨rfl, hb⟩; have B2 : Hid (Below w.heap.size w w2) := ((Below.refl _ _).alloc (Nat.le_refl _) _).trans (hb.mono (by simp)); clear hb)
  go_ret2
  exact ⟨rfl, B2.out⟩
set_option maxRecDepth 100000 in
set_option maxHeartbeats 2000000 in
theorem rtuple_big (o : Option Addr) (n c : Nat) (w : World) (h : 32 < n) : Calls Tryd.prog 30 #[.slice o n c] w fun e w' => e = .returned (.tuple #[.string ⟨#[]⟩, .int .i64 3]) ∧ Below w.heap.size w w' := by
  have hi : (32 : Int) < (n : Int) := by omega
  go_enter Tryd.func30, Tryd.ntmps30
  go_wp2
  go_ret2
  exact ⟨rfl, Below.refl _ _⟩
theorem madeV_any (t : ByteArray) (w : World) (hm : t.size ≤ maxLen) : Calls Tryd.prog 44 #[.string t] w fun e w' => e = .returned (wholeV t) ∧ Below w.heap.size w w' := made_any t w hm
theorem buildL_nil (t : ByteArray) : (⟨(buildL t []).toArray⟩ : ByteArray) = t := by
  apply ByteArray.ext; simp [buildL]
theorem cat_buildL (head : ByteArray) (vs : List ByteArray) (j : Nat) (s : ByteArray) (hs : vs[j]? = some s) : (⟨(buildL head (vs.take j)).toArray⟩ : ByteArray) ++ s = ⟨(buildL head (vs.take (j + 1))).toArray⟩ := by
  rw [buildL_take head vs j s hs, mk_append]
set_option maxRecDepth 100000 in
set_option maxHeartbeats 4000000 in
theorem rtuple_small (o : Option Addr) (vs : List ByteArray) (n c : Nat) (w : World) (hn : vs.length = n) (h : n ≤ 32) (hv : ∀ v ∈ vs, v.size ≤ maxLen) (hS : StrsAt o vs w) : Calls Tryd.prog 30 #[.slice o n c] w fun e w' => e = .returned (buildV (headS n) vs) ∧ Below w.heap.size w w' := by
  have hi : ¬ (32 : Int) < (n : Int) := by omega
  have HH := Lib.hid (headS_size n (by omega))
  have HR := Lib.hid (rdigits_any n w (by omega))
  have hz := dec_size n (by omega)
  have HE : Hid (headS n = ⟨#[84]⟩ ++ ⟨(Lib.decDigits n).toArray⟩ ++ ⟨#[58]⟩) := by
    show _ = _
    unfold headS; rw [itoa_nat]
  generalize (⟨(Lib.decDigits n).toArray⟩ : ByteArray) = u at HR hz HE
  have c1 := cat_any ⟨#[84]⟩ u (by rw [size1]; omega)
  have c2 := cat_any (⟨#[84]⟩ ++ u) ⟨#[58]⟩ (by rw [ByteArray.size_append, size1, size1]; omega)
  rw [← HE.out] at c2
  have HN := Lib.hid hn
  have HS := Lib.hid hS
  have HV := Lib.hid hv
  clear hz hn hS hv
  go_enter Tryd.func30, Tryd.ntmps30
  go_wp2_with (go_at_call 42; (with_reducible refine Calls.mono HR.out ?_); rintro e w1 ⟨rfl, hb⟩; have B1 : Hid (Below w.heap.size w w1) := Lib.hid hb; clear hb)
  go_loopw [4, 5] (fun ov iv wr => ∃ (j : Nat), j ≤ n ∧ iv = .int .i64 (j : Int) ∧ ov = .string ⟨(buildL (headS n) (vs.take j)).toArray⟩ ∧ Hid (Below w.heap.size w wr) ∧ Hid (∀ v ∈ vs.take j, rt v = true)) (fun _ iv _ => n - (intOf iv).toNat)
  case atStart => exact ⟨0, by omega, rfl, by rw [List.take_zero, buildL_nil], B1.out, fun v hv => by simp at hv⟩
  case round =>
    obtain ⟨j, hj, rfl, rfl, hB, hR⟩ := hrel
    by_cases hlt : j < n
    · obtain ⟨s, hs⟩ : ∃ s, vs[j]? = some s := ⟨_, List.getElem?_eq_getElem (by have := HN.out; omega)⟩
      have hvs := HV.out s (List.mem_of_getElem? hs)
      obtain ⟨g, off, rfl, hc⟩ : ∃ g off, o = some ⟨g, off, none⟩ ∧ wr.cell? ⟨g, off + j, none⟩ = some (.string s) := by
        rcases HS.out.below hB.out with h | ⟨g, off, e, h⟩
        · rw [h] at hs; simp at hs
        · exact ⟨g, off, e, h j s hs⟩
      have hji : (j : Int) < (n : Int) := by omega
      have HRs := Lib.hid (rright_any s wr hvs)
      obtain ⟨b, hb⟩ : ∃ b, rightB s.data.toList = b := ⟨_, rfl⟩
      rw [hb] at HRs
      have HSJ := Lib.hid hs
      have hcl := World.block_lt_of_cell? wr _ hc
      clear hs
      cases b with
      | false =>
        have HF : Hid (buildV (headS n) vs = .tuple #[.string ⟨#[]⟩, .int .i64 10]) := by
          show _ = _
          unfold buildV
          rw [if_neg]
          rw [List.all_eq_true]
          intro h
          have := h s (List.mem_of_getElem? HSJ.out)
          unfold rt at this
          rw [hb] at this; cases this
        clear hb
        generalize (⟨(buildL (headS n) (vs.take j)).toArray⟩ : ByteArray) = acc
        go_wp2_with (go_at_call 35; (with_reducible refine Calls.mono HRs.out ?_); rintro e w2 ⟨rfl, hb⟩; have B2 : Hid (Below w.heap.size w w2) := hB.out.trans (hb.mono hB.out.size); clear hb)
        go_ret2
        exact ⟨by rw [HF.out]; rfl, B2.out⟩
      | true =>
        have HB := Lib.hid hb
        have hss := right_size (v := s) hb
        clear hb
        have hsz : (⟨(buildL (headS n) (vs.take j)).toArray⟩ : ByteArray).size ≤ 100000 + 1000 * 16384 := by
          have h1 := buildL_size (headS n) (vs.take j) (fun v hv => right_size (hR.out v hv))
          rw [List.length_take] at h1
          have h2 : min j vs.length ≤ 1000 := by have := HN.out; omega
          have h3 : min j vs.length * 16384 ≤ 1000 * 16384 := Nat.mul_le_mul_right _ h2
          have := HH.out
          show (buildL (headS n) (vs.take j)).toArray.size ≤ _
          rw [List.size_toArray]; omega
        have HC := Lib.hid (cat_buildL (headS n) vs j s HSJ.out)
        generalize (⟨(buildL (headS n) (vs.take j)).toArray⟩ : ByteArray) = acc at hsz HC
        have c3 := cat_any acc s (by omega)
        clear hsz hss
        go_wp2_with (go_at_call 35; (with_reducible refine Calls.mono HRs.out ?_); rintro e w2 ⟨rfl, hb⟩; have hc2 := (hb.cell (p := ⟨g, off + j, none⟩) hcl).trans hc; have B2 : Hid (Below w.heap.size w w2) := hB.out.trans (hb.mono hB.out.size); clear hb)
        go_roundw
        case rel =>
          refine ⟨j + 1, by omega, by congr 1, by rw [HC.out], B2.out, ?_⟩
          have hi := (List.getElem?_eq_some_iff.1 HSJ.out).1
          show ∀ v ∈ vs.take (j + 1), rt v = true
          rw [List.take_succ_eq_append_getElem hi, show vs[j] = s by have hs := HSJ.out; rw [List.getElem?_eq_getElem hi] at hs; exact Option.some.inj hs]
          intro v hv
          rcases List.mem_append.1 hv with h | h
          · exact hR.out v h
          · rw [List.mem_singleton.1 h]; exact HB.out
        case measure => simp [intOf]; omega
    · obtain rfl : j = n := by omega
      have htk : vs.take j = vs := List.take_of_length_le (by have := HN.out; omega)
      rw [htk] at hR ⊢
      clear htk
      have hsz := buildL_size (headS j) vs (fun v hv => right_size (hR.out v hv))
      have HF : Hid (buildV (headS j) vs = wholeV ⟨(buildL (headS j) vs).toArray⟩) := by
        show _ = _
        unfold buildV
        rw [if_pos (List.all_eq_true.2 (fun v hv => hR.out v hv))]
      have hz : (⟨(buildL (headS j) vs).toArray⟩ : ByteArray).size ≤ maxLen := by
        show (buildL (headS j) vs).toArray.size ≤ maxLen
        rw [List.size_toArray]
        have h2 : vs.length * 16384 ≤ 1000 * 16384 := Nat.mul_le_mul_right _ (by have := HN.out; omega)
        have := HH.out
        unfold maxLen; omega
      generalize (⟨(buildL (headS j) vs).toArray⟩ : ByteArray) = t at HF hz ⊢
      have HWH := Lib.hid (madeV_any t wr hz)
      unfold wholeV at HWH HF
      clear hsz
      cases hr : rt t <;>
      · rw [hr] at HWH HF
        clear hr
        go_wp2_with (go_at_call 44; (with_reducible refine Calls.mono HWH.out ?_); rintro e w3 ⟨rfl, hb⟩; have B3 : Hid (Below w.heap.size w w3) := hB.out.trans (hb.mono hB.out.size); clear hb)
        go_ret2
        exact ⟨by rw [HF.out]; rfl, B3.out⟩
theorem rtuple_any (o : Option Addr) (vs : List ByteArray) (n c : Nat) (w : World) (hn : vs.length = n) (hv : ∀ v ∈ vs, v.size ≤ maxLen) (hS : StrsAt o vs w) : Calls Tryd.prog 30 #[.slice o n c] w fun e w' => e = .returned (tupleV vs) ∧ Below w.heap.size w w' := by
  unfold tupleV
  rw [hn]
  by_cases h : 32 < n
  · rw [if_pos h]; exact rtuple_big o n c w h
  · rw [if_neg h]; exact rtuple_small o vs n c w hn (by omega) hv hS
end Go.Proofs.YtlheoipengndnaaDoor
