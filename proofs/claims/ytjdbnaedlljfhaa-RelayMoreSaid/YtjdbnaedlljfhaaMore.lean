/- What Check takes leaves the fee and the time; with more, it takes it still. -/
import Derived.Test.YtjdbnaedlljfhaaWay
namespace Go.Proofs.Ytjdbnaedlljfhaa
open Go.RowKit

theorem checkE_ok {base rate delta mn mx : Int} {off : Bool} {ia ie oa oe ht mg : Int} (h : checkE base rate delta mn mx off ia ie oa oe ht mg = 0) :
    (0 ≤ ie ∧ ie < 2147483648 ∧ 0 ≤ oe ∧ oe < 2147483648 ∧ 0 ≤ ht ∧ ht < 2147483648 ∧ 0 ≤ mg ∧ mg < 2147483648 ∧ 0 ≤ delta ∧ delta < 2147483648) ∧ (0 ≤ ia ∧ ia ≤ 2100000000000000000 ∧ 0 ≤ oa ∧ oa ≤ 2100000000000000000) ∧ off = false ∧ (1 ≤ oa ∧ mn ≤ oa ∧ oa ≤ mx) ∧
      (∃ fee, feeO oa base rate = some fee ∧ grossO oa base rate = some (oa + fee) ∧ oa + fee ≤ ia ∧ 0 ≤ fee ∧ fee ≤ 2100000000000000000) ∧ delta ≤ ie - oe ∧ mg < oe - ht := by
  unfold checkE at h
  by_cases h1 : 0 ≤ ie ∧ ie < 2147483648 ∧ 0 ≤ oe ∧ oe < 2147483648 ∧ 0 ≤ ht ∧ ht < 2147483648 ∧ 0 ≤ mg ∧ mg < 2147483648 ∧ 0 ≤ delta ∧ delta < 2147483648
  · rw [if_neg (fun c => c h1)] at h
    by_cases h2 : 0 ≤ ia ∧ ia ≤ 2100000000000000000 ∧ 0 ≤ oa ∧ oa ≤ 2100000000000000000
    · rw [if_neg (fun c => c h2)] at h
      by_cases h3 : off = true
      · rw [if_pos h3] at h; omega
      · rw [if_neg h3] at h
        by_cases h4 : oa < 1 ∨ oa < mn ∨ mx < oa
        · rw [if_pos h4] at h; omega
        · rw [if_neg h4] at h
          cases hf : feeO oa base rate with
          | none => simp [grossO, hf] at h
          | some fee =>
            cases hg : grossO oa base rate with
            | none => simp [hg] at h
            | some g =>
              have hg' := hg
              simp only [grossO, hf, addO] at hg'
              split at hg'
              · cases hg'
                simp only [hg] at h
                split at h
                · omega
                · split at h
                  · omega
                  · refine ⟨h1, h2, by simpa using h3, by omega, ⟨fee, rfl, rfl, by omega, ?_, ?_⟩, by omega, by omega⟩ <;> omega
              · cases hg'
    · rw [if_pos h2] at h; omega
  · rw [if_pos h1] at h; omega
theorem checkE_more {base rate delta mn mx : Int} {off : Bool} {ia ie oa oe ht mg : Int} (h : checkE base rate delta mn mx off ia ie oa oe ht mg = 0) (a e t : Int) (h1 : ia ≤ a) (h2 : a ≤ 2100000000000000000) (h3 : ie ≤ e) (h4 : e < 2147483648) (h5 : 0 ≤ t) (h6 : t ≤ ht) :
    checkE base rate delta mn mx off a e oa oe t mg = 0 := by
  obtain ⟨⟨a0, a1, a2, a3, a4, a5, a6, a7, a8, a9⟩, ⟨b0, b1, b2, b3⟩, c0, ⟨d0, d1, d2⟩, ⟨fee, e0, e1, e2, e3, e4⟩, f0, f1⟩ := checkE_ok h
  unfold checkE
  rw [if_neg (fun c => c ⟨by omega, by omega, by omega, by omega, by omega, by omega, by omega, by omega, by omega, by omega⟩), if_neg (fun c => c ⟨by omega, by omega, by omega, by omega⟩), c0, if_neg (by simp), if_neg (by omega), e1]
  simp only []
  rw [if_neg (by omega), if_neg (by omega)]

set_option maxRecDepth 100000 in
set_option maxHeartbeats 4000000 in
theorem relayLeaves_no (c f : ByteArray) (stamp base rate delta mn mx : Int) (off : Bool) (ia ie oa oe ht mg : Int) (w : World) (h : checkE base rate delta mn mx off ia ie oa oe ht mg ≠ 0) : Calls Try.prog 4 #[.agg #[.string c, .string f, .int .i64 stamp, .int .i64 base, .int .i64 rate, .int .i64 delta, .int .i64 mn, .int .i64 mx, .bool off, .int .i64 ia, .int .i64 ie, .int .i64 oa, .int .i64 oe, .int .i64 ht, .int .i64 mg]] w fun e w' => e = .returned (.bool true) ∧ Below w.heap.size w w' := by
  obtain ⟨x, hx⟩ : ∃ x, checkE base rate delta mn mx off ia ie oa oe ht mg = x := ⟨_, rfl⟩
  rw [hx] at h
  have H1 := Lib.hid (fun w => checkw_any c f stamp base rate delta mn mx off ia ie oa oe ht mg w x hx)
  have hx0 : (x != 0) = true := by simpa using h
  clear hx h
  go_enter Try.func4, Try.ntmps4
  go_wp2_with (first | (go_at_call 9; (with_reducible refine Calls.mono (H1.out _) ?_); rintro e w1 ⟨rfl, hb1⟩; obtain ⟨hc1, hf1⟩ := bcell hb1; have z1 := hb1.size; (try simp only [World.size_alloc] at z1); have y1 : w.heap.size < w1.heap.size := (by omega)) | (go_at_call 11; (with_reducible refine Calls.mono (works_any _) ?_); rintro e w2 ⟨rfl, hb2⟩; have z2 := hb2.size; try simp only [World.size_alloc] at z2))
  go_ret
  exact ⟨rfl, (by (repeat' (first | (with_reducible exact Below.refl _ _) | (with_reducible refine Below.alloc ?_ ?_ _) | (with_reducible refine Below.drew ?_) | (with_reducible refine Below.setCell ?_ ?_ _) | (with_reducible refine below_drewN ?_ _) | (refine Below.trans ?_ (Below.mono (by assumption) ?_)) | go_size | (simp [World.setCell]; omega))))⟩
set_option maxRecDepth 100000 in
set_option maxHeartbeats 4000000 in
theorem relayLeaves_yes (c f : ByteArray) (stamp base rate delta mn mx : Int) (off : Bool) (ia ie oa oe ht mg : Int) (w : World) (h : checkE base rate delta mn mx off ia ie oa oe ht mg = 0) : Calls Try.prog 4 #[.agg #[.string c, .string f, .int .i64 stamp, .int .i64 base, .int .i64 rate, .int .i64 delta, .int .i64 mn, .int .i64 mx, .bool off, .int .i64 ia, .int .i64 ie, .int .i64 oa, .int .i64 oe, .int .i64 ht, .int .i64 mg]] w fun e w' => e = .returned (.bool true) ∧ Below w.heap.size w w' := by
  have H1 := Lib.hid (fun w => checkw_any c f stamp base rate delta mn mx off ia ie oa oe ht mg w 0 h)
  obtain ⟨⟨a0, a1, a2, a3, a4, a5, a6, a7, a8, a9⟩, ⟨b0, b1, b2, b3⟩, rfl, ⟨d0, d1, d2⟩, ⟨fee, e0, _, e2, e3, e4⟩, f0, f1⟩ := checkE_ok h
  have HF := Lib.hid e0
  clear h e0
  have g1 : fee ≤ ia - oa := by omega
  have g2 := decB (fee ≤ ia - oa) g1
  have g3 := decB (delta ≤ ie - oe) f0
  have g4 := decB (mg < oe - ht) f1
  have g5 := decB (mn ≤ oa) d1
  have g6 := decB (oa ≤ mx) d2
  have i1 : 0 ≤ ia - oa := by omega
  have i2 : ia - oa ≤ 2100000000000000000 := by omega
  have i3 : 0 ≤ ie - oe := by omega
  have i4 : ie - oe < 2147483648 := by omega
  have i5 : 0 ≤ oe - ht := by omega
  have i6 : oe - ht < 2147483648 := by omega
  go_enter Try.func4, Try.ntmps4
  go_wp2_with (first | (go_at_call 9; (with_reducible refine Calls.mono (H1.out _) ?_); rintro e w1 ⟨rfl, hb1⟩; obtain ⟨hc1, hf1⟩ := bcell hb1; have z1 := hb1.size; (try simp only [World.size_alloc] at z1); have y1 : w.heap.size < w1.heap.size := (by omega)) | (go_at_call 12; (with_reducible refine Calls.mono (fee_any oa base rate _) ?_); rintro e w2 k2; obtain ⟨rfl, hb2⟩ := opt_some k2 HF.out; clear k2; obtain ⟨hc2, hf2⟩ := bcell hb2; have z2 := hb2.size; try simp only [World.size_alloc] at z2) | (go_at_call 11; (with_reducible refine Calls.mono (works_any _) ?_); rintro e w3 ⟨rfl, hb3⟩; have z3 := hb3.size; try simp only [World.size_alloc] at z3))
  go_ret
  exact ⟨rfl, (by (repeat' (first | (with_reducible exact Below.refl _ _) | (with_reducible refine Below.alloc ?_ ?_ _) | (with_reducible refine Below.drew ?_) | (with_reducible refine Below.setCell ?_ ?_ _) | (with_reducible refine below_drewN ?_ _) | (refine Below.trans ?_ (Below.mono (by assumption) ?_)) | go_size | (simp [World.setCell]; omega))))⟩
theorem relayLeaves_any (c f : ByteArray) (stamp base rate delta mn mx : Int) (off : Bool) (ia ie oa oe ht mg : Int) (w : World) : Calls Try.prog 4 #[.agg #[.string c, .string f, .int .i64 stamp, .int .i64 base, .int .i64 rate, .int .i64 delta, .int .i64 mn, .int .i64 mx, .bool off, .int .i64 ia, .int .i64 ie, .int .i64 oa, .int .i64 oe, .int .i64 ht, .int .i64 mg]] w fun e w' => e = .returned (.bool true) ∧ Below w.heap.size w w' := by
  by_cases h : checkE base rate delta mn mx off ia ie oa oe ht mg = 0
  · exact relayLeaves_yes c f stamp base rate delta mn mx off ia ie oa oe ht mg w h
  · exact relayLeaves_no c f stamp base rate delta mn mx off ia ie oa oe ht mg w h

set_option maxRecDepth 100000 in
set_option maxHeartbeats 4000000 in
theorem relayMore_no (c f : ByteArray) (stamp base rate delta mn mx : Int) (off : Bool) (ia ie oa oe ht mg : Int) (a ex t : Int) (w : World) (h : checkE base rate delta mn mx off ia ie oa oe ht mg ≠ 0) : Calls Try.prog 5 #[.agg #[.string c, .string f, .int .i64 stamp, .int .i64 base, .int .i64 rate, .int .i64 delta, .int .i64 mn, .int .i64 mx, .bool off, .int .i64 ia, .int .i64 ie, .int .i64 oa, .int .i64 oe, .int .i64 ht, .int .i64 mg], .int .i64 a, .int .i64 ex, .int .i64 t] w fun e w' => e = .returned (.bool true) ∧ Below w.heap.size w w' := by
  obtain ⟨x, hx⟩ : ∃ x, checkE base rate delta mn mx off ia ie oa oe ht mg = x := ⟨_, rfl⟩
  rw [hx] at h
  have H1 := Lib.hid (fun w => checkw_any c f stamp base rate delta mn mx off ia ie oa oe ht mg w x hx)
  have hx0 : (x != 0) = true := by simpa using h
  clear hx h
  go_enter Try.func5, Try.ntmps5
  go_wp2_with (first | (go_at_call 9; (with_reducible refine Calls.mono (H1.out _) ?_); rintro e w1 ⟨rfl, hb1⟩; obtain ⟨hc1, hf1⟩ := bcell hb1; have z1 := hb1.size; (try simp only [World.size_alloc] at z1); have y1 : w.heap.size < w1.heap.size := (by omega)) | (go_at_call 11; (with_reducible refine Calls.mono (works_any _) ?_); rintro e w2 ⟨rfl, hb2⟩; have z2 := hb2.size; try simp only [World.size_alloc] at z2))
  go_ret
  exact ⟨rfl, (by (repeat' (first | (with_reducible exact Below.refl _ _) | (with_reducible refine Below.alloc ?_ ?_ _) | (with_reducible refine Below.drew ?_) | (with_reducible refine Below.setCell ?_ ?_ _) | (with_reducible refine below_drewN ?_ _) | (refine Below.trans ?_ (Below.mono (by assumption) ?_)) | go_size | (simp [World.setCell]; omega))))⟩

set_option maxRecDepth 100000 in
set_option maxHeartbeats 4000000 in
theorem relayMore_0 (c f : ByteArray) (stamp base rate delta mn mx : Int) (off : Bool) (ia ie oa oe ht mg : Int) (a ex t : Int) (w : World) (h : checkE base rate delta mn mx off ia ie oa oe ht mg = 0)  (hn : a < ia) : Calls Try.prog 5 #[.agg #[.string c, .string f, .int .i64 stamp, .int .i64 base, .int .i64 rate, .int .i64 delta, .int .i64 mn, .int .i64 mx, .bool off, .int .i64 ia, .int .i64 ie, .int .i64 oa, .int .i64 oe, .int .i64 ht, .int .i64 mg], .int .i64 a, .int .i64 ex, .int .i64 t] w fun e w' => e = .returned (.bool true) ∧ Below w.heap.size w w' := by
  have H1 := Lib.hid (fun w => checkw_any c f stamp base rate delta mn mx off ia ie oa oe ht mg w 0 h)
  clear h

  have d := decB (a < ia) hn
  go_enter Try.func5, Try.ntmps5
  go_wp2_with (first | (go_at_call 9; (with_reducible refine Calls.mono (H1.out _) ?_); rintro e w1 ⟨rfl, hb1⟩; obtain ⟨hc1, hf1⟩ := bcell hb1; have z1 := hb1.size; (try simp only [World.size_alloc] at z1); have y1 : w.heap.size < w1.heap.size := (by omega)) | (go_at_call 11; (with_reducible refine Calls.mono (works_any _) ?_); rintro e w2 ⟨rfl, hb2⟩; have z2 := hb2.size; try simp only [World.size_alloc] at z2))
  go_ret
  exact ⟨rfl, (by (repeat' (first | (with_reducible exact Below.refl _ _) | (with_reducible refine Below.alloc ?_ ?_ _) | (with_reducible refine Below.drew ?_) | (with_reducible refine Below.setCell ?_ ?_ _) | (with_reducible refine below_drewN ?_ _) | (refine Below.trans ?_ (Below.mono (by assumption) ?_)) | go_size | (simp [World.setCell]; omega))))⟩

set_option maxRecDepth 100000 in
set_option maxHeartbeats 4000000 in
theorem relayMore_1 (c f : ByteArray) (stamp base rate delta mn mx : Int) (off : Bool) (ia ie oa oe ht mg : Int) (a ex t : Int) (w : World) (h : checkE base rate delta mn mx off ia ie oa oe ht mg = 0) (h0 : ia ≤ a) (hn : 2100000000000000000 < a) : Calls Try.prog 5 #[.agg #[.string c, .string f, .int .i64 stamp, .int .i64 base, .int .i64 rate, .int .i64 delta, .int .i64 mn, .int .i64 mx, .bool off, .int .i64 ia, .int .i64 ie, .int .i64 oa, .int .i64 oe, .int .i64 ht, .int .i64 mg], .int .i64 a, .int .i64 ex, .int .i64 t] w fun e w' => e = .returned (.bool true) ∧ Below w.heap.size w w' := by
  have H1 := Lib.hid (fun w => checkw_any c f stamp base rate delta mn mx off ia ie oa oe ht mg w 0 h)
  clear h
  have d0 := decN (a < ia) (by omega)
  have d := decB (2100000000000000000 < a) hn
  go_enter Try.func5, Try.ntmps5
  go_wp2_with (first | (go_at_call 9; (with_reducible refine Calls.mono (H1.out _) ?_); rintro e w1 ⟨rfl, hb1⟩; obtain ⟨hc1, hf1⟩ := bcell hb1; have z1 := hb1.size; (try simp only [World.size_alloc] at z1); have y1 : w.heap.size < w1.heap.size := (by omega)) | (go_at_call 11; (with_reducible refine Calls.mono (works_any _) ?_); rintro e w2 ⟨rfl, hb2⟩; have z2 := hb2.size; try simp only [World.size_alloc] at z2))
  go_ret
  exact ⟨rfl, (by (repeat' (first | (with_reducible exact Below.refl _ _) | (with_reducible refine Below.alloc ?_ ?_ _) | (with_reducible refine Below.drew ?_) | (with_reducible refine Below.setCell ?_ ?_ _) | (with_reducible refine below_drewN ?_ _) | (refine Below.trans ?_ (Below.mono (by assumption) ?_)) | go_size | (simp [World.setCell]; omega))))⟩

set_option maxRecDepth 100000 in
set_option maxHeartbeats 4000000 in
theorem relayMore_2 (c f : ByteArray) (stamp base rate delta mn mx : Int) (off : Bool) (ia ie oa oe ht mg : Int) (a ex t : Int) (w : World) (h : checkE base rate delta mn mx off ia ie oa oe ht mg = 0) (h0 : ia ≤ a) (h1 : a ≤ 2100000000000000000) (hn : ex < ie) : Calls Try.prog 5 #[.agg #[.string c, .string f, .int .i64 stamp, .int .i64 base, .int .i64 rate, .int .i64 delta, .int .i64 mn, .int .i64 mx, .bool off, .int .i64 ia, .int .i64 ie, .int .i64 oa, .int .i64 oe, .int .i64 ht, .int .i64 mg], .int .i64 a, .int .i64 ex, .int .i64 t] w fun e w' => e = .returned (.bool true) ∧ Below w.heap.size w w' := by
  have H1 := Lib.hid (fun w => checkw_any c f stamp base rate delta mn mx off ia ie oa oe ht mg w 0 h)
  clear h
  have d0 := decN (a < ia) (by omega)
  have d1 := decN (2100000000000000000 < a) (by omega)
  have d := decB (ex < ie) hn
  go_enter Try.func5, Try.ntmps5
  go_wp2_with (first | (go_at_call 9; (with_reducible refine Calls.mono (H1.out _) ?_); rintro e w1 ⟨rfl, hb1⟩; obtain ⟨hc1, hf1⟩ := bcell hb1; have z1 := hb1.size; (try simp only [World.size_alloc] at z1); have y1 : w.heap.size < w1.heap.size := (by omega)) | (go_at_call 11; (with_reducible refine Calls.mono (works_any _) ?_); rintro e w2 ⟨rfl, hb2⟩; have z2 := hb2.size; try simp only [World.size_alloc] at z2))
  go_ret
  exact ⟨rfl, (by (repeat' (first | (with_reducible exact Below.refl _ _) | (with_reducible refine Below.alloc ?_ ?_ _) | (with_reducible refine Below.drew ?_) | (with_reducible refine Below.setCell ?_ ?_ _) | (with_reducible refine below_drewN ?_ _) | (refine Below.trans ?_ (Below.mono (by assumption) ?_)) | go_size | (simp [World.setCell]; omega))))⟩

set_option maxRecDepth 100000 in
set_option maxHeartbeats 4000000 in
theorem relayMore_3 (c f : ByteArray) (stamp base rate delta mn mx : Int) (off : Bool) (ia ie oa oe ht mg : Int) (a ex t : Int) (w : World) (h : checkE base rate delta mn mx off ia ie oa oe ht mg = 0) (h0 : ia ≤ a) (h1 : a ≤ 2100000000000000000) (h2 : ie ≤ ex) (hn : 2147483648 ≤ ex) : Calls Try.prog 5 #[.agg #[.string c, .string f, .int .i64 stamp, .int .i64 base, .int .i64 rate, .int .i64 delta, .int .i64 mn, .int .i64 mx, .bool off, .int .i64 ia, .int .i64 ie, .int .i64 oa, .int .i64 oe, .int .i64 ht, .int .i64 mg], .int .i64 a, .int .i64 ex, .int .i64 t] w fun e w' => e = .returned (.bool true) ∧ Below w.heap.size w w' := by
  have H1 := Lib.hid (fun w => checkw_any c f stamp base rate delta mn mx off ia ie oa oe ht mg w 0 h)
  clear h
  have d0 := decN (a < ia) (by omega)
  have d1 := decN (2100000000000000000 < a) (by omega)
  have d2 := decN (ex < ie) (by omega)
  have d := decB (2147483648 ≤ ex) hn
  go_enter Try.func5, Try.ntmps5
  go_wp2_with (first | (go_at_call 9; (with_reducible refine Calls.mono (H1.out _) ?_); rintro e w1 ⟨rfl, hb1⟩; obtain ⟨hc1, hf1⟩ := bcell hb1; have z1 := hb1.size; (try simp only [World.size_alloc] at z1); have y1 : w.heap.size < w1.heap.size := (by omega)) | (go_at_call 11; (with_reducible refine Calls.mono (works_any _) ?_); rintro e w2 ⟨rfl, hb2⟩; have z2 := hb2.size; try simp only [World.size_alloc] at z2))
  go_ret
  exact ⟨rfl, (by (repeat' (first | (with_reducible exact Below.refl _ _) | (with_reducible refine Below.alloc ?_ ?_ _) | (with_reducible refine Below.drew ?_) | (with_reducible refine Below.setCell ?_ ?_ _) | (with_reducible refine below_drewN ?_ _) | (refine Below.trans ?_ (Below.mono (by assumption) ?_)) | go_size | (simp [World.setCell]; omega))))⟩

set_option maxRecDepth 100000 in
set_option maxHeartbeats 4000000 in
theorem relayMore_4 (c f : ByteArray) (stamp base rate delta mn mx : Int) (off : Bool) (ia ie oa oe ht mg : Int) (a ex t : Int) (w : World) (h : checkE base rate delta mn mx off ia ie oa oe ht mg = 0) (h0 : ia ≤ a) (h1 : a ≤ 2100000000000000000) (h2 : ie ≤ ex) (h3 : ex < 2147483648) (hn : t < 0) : Calls Try.prog 5 #[.agg #[.string c, .string f, .int .i64 stamp, .int .i64 base, .int .i64 rate, .int .i64 delta, .int .i64 mn, .int .i64 mx, .bool off, .int .i64 ia, .int .i64 ie, .int .i64 oa, .int .i64 oe, .int .i64 ht, .int .i64 mg], .int .i64 a, .int .i64 ex, .int .i64 t] w fun e w' => e = .returned (.bool true) ∧ Below w.heap.size w w' := by
  have H1 := Lib.hid (fun w => checkw_any c f stamp base rate delta mn mx off ia ie oa oe ht mg w 0 h)
  clear h
  have d0 := decN (a < ia) (by omega)
  have d1 := decN (2100000000000000000 < a) (by omega)
  have d2 := decN (ex < ie) (by omega)
  have d3 := decN (2147483648 ≤ ex) (by omega)
  have d := decB (t < 0) hn
  go_enter Try.func5, Try.ntmps5
  go_wp2_with (first | (go_at_call 9; (with_reducible refine Calls.mono (H1.out _) ?_); rintro e w1 ⟨rfl, hb1⟩; obtain ⟨hc1, hf1⟩ := bcell hb1; have z1 := hb1.size; (try simp only [World.size_alloc] at z1); have y1 : w.heap.size < w1.heap.size := (by omega)) | (go_at_call 11; (with_reducible refine Calls.mono (works_any _) ?_); rintro e w2 ⟨rfl, hb2⟩; have z2 := hb2.size; try simp only [World.size_alloc] at z2))
  go_ret
  exact ⟨rfl, (by (repeat' (first | (with_reducible exact Below.refl _ _) | (with_reducible refine Below.alloc ?_ ?_ _) | (with_reducible refine Below.drew ?_) | (with_reducible refine Below.setCell ?_ ?_ _) | (with_reducible refine below_drewN ?_ _) | (refine Below.trans ?_ (Below.mono (by assumption) ?_)) | go_size | (simp [World.setCell]; omega))))⟩

set_option maxRecDepth 100000 in
set_option maxHeartbeats 4000000 in
theorem relayMore_5 (c f : ByteArray) (stamp base rate delta mn mx : Int) (off : Bool) (ia ie oa oe ht mg : Int) (a ex t : Int) (w : World) (h : checkE base rate delta mn mx off ia ie oa oe ht mg = 0) (h0 : ia ≤ a) (h1 : a ≤ 2100000000000000000) (h2 : ie ≤ ex) (h3 : ex < 2147483648) (h4 : 0 ≤ t) (hn : ht < t) : Calls Try.prog 5 #[.agg #[.string c, .string f, .int .i64 stamp, .int .i64 base, .int .i64 rate, .int .i64 delta, .int .i64 mn, .int .i64 mx, .bool off, .int .i64 ia, .int .i64 ie, .int .i64 oa, .int .i64 oe, .int .i64 ht, .int .i64 mg], .int .i64 a, .int .i64 ex, .int .i64 t] w fun e w' => e = .returned (.bool true) ∧ Below w.heap.size w w' := by
  have H1 := Lib.hid (fun w => checkw_any c f stamp base rate delta mn mx off ia ie oa oe ht mg w 0 h)
  clear h
  have d0 := decN (a < ia) (by omega)
  have d1 := decN (2100000000000000000 < a) (by omega)
  have d2 := decN (ex < ie) (by omega)
  have d3 := decN (2147483648 ≤ ex) (by omega)
  have d4 := decN (t < 0) (by omega)
  have d := decB (ht < t) hn
  go_enter Try.func5, Try.ntmps5
  go_wp2_with (first | (go_at_call 9; (with_reducible refine Calls.mono (H1.out _) ?_); rintro e w1 ⟨rfl, hb1⟩; obtain ⟨hc1, hf1⟩ := bcell hb1; have z1 := hb1.size; (try simp only [World.size_alloc] at z1); have y1 : w.heap.size < w1.heap.size := (by omega)) | (go_at_call 11; (with_reducible refine Calls.mono (works_any _) ?_); rintro e w2 ⟨rfl, hb2⟩; have z2 := hb2.size; try simp only [World.size_alloc] at z2))
  go_ret
  exact ⟨rfl, (by (repeat' (first | (with_reducible exact Below.refl _ _) | (with_reducible refine Below.alloc ?_ ?_ _) | (with_reducible refine Below.drew ?_) | (with_reducible refine Below.setCell ?_ ?_ _) | (with_reducible refine below_drewN ?_ _) | (refine Below.trans ?_ (Below.mono (by assumption) ?_)) | go_size | (simp [World.setCell]; omega))))⟩

set_option maxRecDepth 100000 in
set_option maxHeartbeats 4000000 in
theorem relayMore_yes (c f : ByteArray) (stamp base rate delta mn mx : Int) (off : Bool) (ia ie oa oe ht mg : Int) (a ex t : Int) (w : World) (h : checkE base rate delta mn mx off ia ie oa oe ht mg = 0) (h0 : ia ≤ a) (h1 : a ≤ 2100000000000000000) (h2 : ie ≤ ex) (h3 : ex < 2147483648) (h4 : 0 ≤ t) (h5 : t ≤ ht) : Calls Try.prog 5 #[.agg #[.string c, .string f, .int .i64 stamp, .int .i64 base, .int .i64 rate, .int .i64 delta, .int .i64 mn, .int .i64 mx, .bool off, .int .i64 ia, .int .i64 ie, .int .i64 oa, .int .i64 oe, .int .i64 ht, .int .i64 mg], .int .i64 a, .int .i64 ex, .int .i64 t] w fun e w' => e = .returned (.bool true) ∧ Below w.heap.size w w' := by
  have H1 := Lib.hid (fun w => checkw_any c f stamp base rate delta mn mx off ia ie oa oe ht mg w 0 h)
  have H2 := Lib.hid (fun w => checkw_any c f stamp base rate delta mn mx off a ex oa oe t mg w 0 (checkE_more h a ex t h0 h1 h2 h3 h4 h5))
  clear h
  have d0 := decN (a < ia) (by omega)
  have d1 := decN (2100000000000000000 < a) (by omega)
  have d2 := decN (ex < ie) (by omega)
  have d3 := decN (2147483648 ≤ ex) (by omega)
  have d4 := decN (t < 0) (by omega)
  have d5 := decN (ht < t) (by omega)
  go_enter Try.func5, Try.ntmps5
  go_wp2_with (first | (go_at_call 9; (with_reducible refine Calls.mono (H1.out _) ?_); rintro e w1 ⟨rfl, hb1⟩; obtain ⟨hc1, hf1⟩ := bcell hb1; have z1 := hb1.size; (try simp only [World.size_alloc] at z1); have y1 : w.heap.size < w1.heap.size := (by omega)) | (go_at_call 9; (with_reducible refine Calls.mono (H2.out _) ?_); rintro e w2 ⟨rfl, hb2⟩; have z2 : w1.heap.size ≤ w2.heap.size := (by have := hb2.size; simpa [World.setCell] using this)) | (go_at_call 11; (with_reducible refine Calls.mono (works_any _) ?_); rintro e w3 ⟨rfl, hb3⟩; have z3 := hb3.size; try simp only [World.size_alloc] at z3))
  go_ret
  exact ⟨rfl, (by (repeat' (first | (with_reducible exact Below.refl _ _) | (with_reducible refine Below.alloc ?_ ?_ _) | (with_reducible refine Below.drew ?_) | (with_reducible refine Below.setCell ?_ ?_ _) | (with_reducible refine below_drewN ?_ _) | (refine Below.trans ?_ (Below.mono (by assumption) ?_)) | go_size | (simp [World.setCell]; omega))))⟩
theorem relayMore_any (c f : ByteArray) (stamp base rate delta mn mx : Int) (off : Bool) (ia ie oa oe ht mg : Int) (a ex t : Int) (w : World) : Calls Try.prog 5 #[.agg #[.string c, .string f, .int .i64 stamp, .int .i64 base, .int .i64 rate, .int .i64 delta, .int .i64 mn, .int .i64 mx, .bool off, .int .i64 ia, .int .i64 ie, .int .i64 oa, .int .i64 oe, .int .i64 ht, .int .i64 mg], .int .i64 a, .int .i64 ex, .int .i64 t] w fun e w' => e = .returned (.bool true) ∧ Below w.heap.size w w' := by
  by_cases h : checkE base rate delta mn mx off ia ie oa oe ht mg = 0
  · by_cases h0 : ia ≤ a
    · by_cases h1 : a ≤ 2100000000000000000
      · by_cases h2 : ie ≤ ex
        · by_cases h3 : ex < 2147483648
          · by_cases h4 : 0 ≤ t
            · by_cases h5 : t ≤ ht
              · exact relayMore_yes c f stamp base rate delta mn mx off ia ie oa oe ht mg a ex t w h h0 h1 h2 h3 h4 h5
              · exact relayMore_5 c f stamp base rate delta mn mx off ia ie oa oe ht mg a ex t w h h0 h1 h2 h3 h4 (by omega)
            · exact relayMore_4 c f stamp base rate delta mn mx off ia ie oa oe ht mg a ex t w h h0 h1 h2 h3 (by omega)
          · exact relayMore_3 c f stamp base rate delta mn mx off ia ie oa oe ht mg a ex t w h h0 h1 h2 (by omega)
        · exact relayMore_2 c f stamp base rate delta mn mx off ia ie oa oe ht mg a ex t w h h0 h1 (by omega)
      · exact relayMore_1 c f stamp base rate delta mn mx off ia ie oa oe ht mg a ex t w h h0 (by omega)
    · exact relayMore_0 c f stamp base rate delta mn mx off ia ie oa oe ht mg a ex t w h (by omega)
  · exact relayMore_no c f stamp base rate delta mn mx off ia ie oa oe ht mg a ex t w h

end Go.Proofs.Ytjdbnaedlljfhaa
