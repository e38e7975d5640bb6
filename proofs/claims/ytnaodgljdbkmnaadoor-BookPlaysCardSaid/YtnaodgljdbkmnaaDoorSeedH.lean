/- seed: works; SeedSecrets, SeedNone, walked. -/
import Derived.Test.YtnaodgljdbkmnaaDoorSeedG
namespace Go.Proofs.YtnaodgljdbkmnaaDoor
set_option linter.unusedVariables false
open Go.RowKit
theorem Fr.only {a b : World} {sb B : Nat} (h : Fr (Only sb) a b) (hs : B ≤ sb) (hB : B ≤ a.heap.size) : Below B a b :=
  ⟨h.os, h.tape, h.output, h.size, fun k hk => h.block k (by omega) (fun e => by have : k = sb := e; omega)⟩
/-- the n-th secret of a seed -/
def secN (s : List UInt8) (n : Nat) : List UInt8 := (onO s (TOP - n) 20).getD []
theorem add_sec {s u : List UInt8} (hs : rightB s = true) (h : onO s TOP 20 = some u) {n : Nat} (hn : n ≤ TOP) : addX (secs s n) (1048575 - (n : Int)) ⟨(secN s n).toArray⟩ = 0 ∧ addH (secs s n) (1048575 - (n : Int)) ⟨(secN s n).toArray⟩ = secs s (n + 1) := by
  have hT : TOP = 1048575 := rfl
  obtain ⟨t, ht, hr⟩ := sec_there hs h (TOP - n)
  have e : addX (secs s n) (1048575 - (n : Int)) ⟨(secN s n).toArray⟩ = 0 := by
    unfold addX
    rw [secs_len, if_neg (by omega), if_neg (by unfold rt secN; rw [ba_list, ht]; simp only [Option.getD_some]; rw [hr]; decide), if_pos (by rw [ba_list]; exact sec_makes hs h hn)]
  refine ⟨e, ?_⟩
  unfold addH
  rw [if_pos e, ba_list, secs_succ]; rfl
theorem add_wrong {s u wr : List UInt8} (hs : rightB s = true) (h : onO s TOP 20 = some u) {n : Nat} (hn : n ≤ TOP) (hodd : n % 2 = 1) (hne : wr ≠ secN s n) : addX (secs s n) (1048575 - (n : Int)) ⟨wr.toArray⟩ ≠ 0 ∧ addH (secs s n) (1048575 - (n : Int)) ⟨wr.toArray⟩ = secs s n ∧ (rightB wr = true → addX (secs s n) (1048575 - (n : Int)) ⟨wr.toArray⟩ = 150) := by
  have hT : TOP = 1048575 := rfl
  have e : addX (secs s n) (1048575 - (n : Int)) ⟨wr.toArray⟩ = if rightB wr = false then 10 else 150 := by
    unfold addX
    rw [secs_len, if_neg (by omega), ba_list]
    unfold rt
    rw [ba_list, if_neg (wrong_makes hs h hn hodd hne)]
  have e2 : addX (secs s n) (1048575 - (n : Int)) ⟨wr.toArray⟩ ≠ 0 := by rw [e]; split <;> decide
  refine ⟨e2, by unfold addH; rw [if_neg e2], fun hr => ?_⟩
  rw [e, if_neg (by rw [hr]; decide)]
def S7 : List UInt8 := [110, 55, 59]
theorem s7_right : rightB S7 = true := by decide +kernel
theorem s7_top : ∃ u, onO S7 TOP 20 = some u := by
  have h : (onO S7 TOP 20).isSome = true := by decide +kernel
  exact Option.isSome_iff_exists.1 h
theorem s7_five : onO S7 5 20 = some [68, 68, 110, 55, 59, 116, 49, 58, 50, 116, 49, 58, 48] := by decide +kernel
theorem s9_other : ([110, 57, 59] : List UInt8) ≠ secN S7 1 := by decide +kernel
theorem secV_in {s : ByteArray} (hs : rt s = true) {i : Nat} (hi : i ≤ 1048575) : secV s i = onV s.data.toList i 20 := by
  unfold secV
  rw [if_neg (by omega), if_pos hs, Int.toNat_natCast]
theorem secV_sec {s u : List UInt8} (hs : rightB s = true) (h : onO s TOP 20 = some u) {n : Nat} (hn : n ≤ TOP) : secV ⟨s.toArray⟩ (1048575 - (n : Int)) = .tuple #[.string ⟨(secN s n).toArray⟩, .int .i64 0] := by
  have hT : TOP = 1048575 := rfl
  obtain ⟨t, ht, hr⟩ := sec_there hs h (TOP - n)
  rw [show (1048575 - (n : Int)) = ((TOP - n : Nat) : Int) by omega, secV_in (by unfold rt; rw [ba_list]; exact hs) (by omega), ba_list]
  unfold onV secN
  rw [ht]; rfl
theorem kept_two : keptN (secs S7 2) = 1 := by
  have hT : TOP = 1048575 := rfl
  have l1 : lowP 1048575 = 0 := by decide +kernel
  have l2 : lowP 1048574 = 1 := by decide +kernel
  have h1 := sp_snoc (i := 1048575) sp_nil (by omega)
  have h2 := sp_snoc (i := 1048574) h1 (by omega)
  have hl : lowest (secs S7 2) = 1048574 := by unfold lowest; rw [secs_len]; omega
  have h3 : SpOk (fun b => if b < lowP 1048574 then none else if b = lowP 1048574 then some 1048574 else if b < lowP 1048575 then none else if b = lowP 1048575 then some 1048575 else none) (lowest (secs S7 2)) := by rw [hl]; exact h2
  rw [kept_count (by rw [secs_len]; omega) h3, l1, l2]
  decide
set_option maxRecDepth 100000 in
set_option maxHeartbeats 8000000 in
theorem works_any (w : World) (hL : LibOk w) (hT : Tab w) (hD : Bru w) : Calls Tryd.prog 14 #[] w fun e w' => e = .returned (.bool true) ∧ Below w.heap.size w w' := by
  have HL := Lib.hid hL
  have HT := Lib.hid hT
  have HD := Lib.hid hD
  clear hL hT hD
  obtain ⟨u7, hu⟩ := s7_top
  have q0 := secV_sec s7_right hu (n := 0) (by decide)
  have q1 := secV_sec s7_right hu (n := 1) (by decide)
  obtain ⟨p0, p0'⟩ := add_sec s7_right hu (n := 0) (by decide)
  obtain ⟨p1, p1'⟩ := add_sec s7_right hu (n := 1) (by decide)
  obtain ⟨_, r1, r2⟩ := add_wrong s7_right hu (n := 1) (by decide) (by decide) s9_other
  have r2 := r2 (by decide +kernel)
  have z0 : (secN S7 0).toArray.size ≤ 16384 := by
    have := right_size (v := ⟨(secN S7 0).toArray⟩) (by unfold rt; rw [ba_list]; decide +kernel); exact this
  have z1 : (secN S7 1).toArray.size ≤ 16384 := by
    have := right_size (v := ⟨(secN S7 1).toArray⟩) (by unfold rt; rw [ba_list]; decide +kernel); exact this
  have g0 : getV (secs S7 2) 1048575 = .tuple #[.string ⟨(secN S7 0).toArray⟩, .int .i64 0] := by
    unfold getV
    rw [secs_len, if_neg (by omega)]
    rfl
  have C5 : Hid (∀ W, LibOk W → Tab W → Calls Tryd.prog 12 #[.string ⟨#[110, 55, 59]⟩, .int .i64 5] W fun e w' => e = .returned (.tuple #[.string ⟨#[68, 68, 110, 55, 59, 116, 49, 58, 50, 116, 49, 58, 48]⟩, .int .i64 0]) ∧ Below W.heap.size W w') := fun W h1 h2 => by
    have := secret_any ⟨#[110, 55, 59]⟩ 5 W (by decide) h1 h2
    rw [show secV ⟨#[110, 55, 59]⟩ 5 = .tuple #[.string ⟨#[68, 68, 110, 55, 59, 116, 49, 58, 50, 116, 49, 58, 48]⟩, .int .i64 0] from by
      rw [show (5 : Int) = ((5 : Nat) : Int) from rfl, secV_in (by decide +kernel) (by omega)]
      unfold onV
      rw [show (⟨#[110, 55, 59]⟩ : ByteArray).data.toList = S7 from rfl, s7_five]] at this
    exact this
  have CT : Hid (∀ W, LibOk W → Tab W → Calls Tryd.prog 12 #[.string ⟨#[110, 55, 59]⟩, .int .i64 1048575] W fun e w' => e = .returned (.tuple #[.string ⟨(secN S7 0).toArray⟩, .int .i64 0]) ∧ Below W.heap.size W w') := fun W h1 h2 => by
    have := secret_any ⟨S7.toArray⟩ (1048575 - ((0 : Nat) : Int)) W (by decide) h1 h2
    rw [q0] at this
    exact this
  have CU : Hid (∀ W, LibOk W → Tab W → Calls Tryd.prog 12 #[.string ⟨#[110, 55, 59]⟩, .int .i64 1048574] W fun e w' => e = .returned (.tuple #[.string ⟨(secN S7 1).toArray⟩, .int .i64 0]) ∧ Below W.heap.size W w') := fun W h1 h2 => by
    have := secret_any ⟨S7.toArray⟩ (1048575 - ((1 : Nat) : Int)) W (by decide) h1 h2
    rw [q1] at this
    exact this
  have A0 : Hid (∀ sb W, St W sb [] → LibOk W → Tab W → Bru W → Calls Tryd.prog 17 #[.pointer (some ⟨sb, 0, none⟩), .int .i64 1048575, .string ⟨(secN S7 0).toArray⟩] W fun e w' => e = .returned (.int .i64 0) ∧ St w' sb (secs S7 1) ∧ Fr (Only sb) W w') := fun sb W h h1 h2 h3 => by
    have := add_st sb (secs S7 0) W h (1048575 - ((0 : Nat) : Int)) ⟨(secN S7 0).toArray⟩ (by show (secN S7 0).toArray.size ≤ maxLen; unfold maxLen; omega) h1 h2 h3
    rw [p0, p0'] at this
    exact this
  have A1 : Hid (∀ sb W, St W sb (secs S7 1) → LibOk W → Tab W → Bru W → Calls Tryd.prog 17 #[.pointer (some ⟨sb, 0, none⟩), .int .i64 1048574, .string ⟨#[110, 57, 59]⟩] W fun e w' => e = .returned (.int .i64 150) ∧ St w' sb (secs S7 1) ∧ Fr (Only sb) W w') := fun sb W h h1 h2 h3 => by
    have := add_st sb (secs S7 1) W h (1048575 - ((1 : Nat) : Int)) ⟨([110, 57, 59] : List UInt8).toArray⟩ (by decide) h1 h2 h3
    rw [r2, r1] at this
    exact this
  have A2 : Hid (∀ sb W, St W sb (secs S7 1) → LibOk W → Tab W → Bru W → Calls Tryd.prog 17 #[.pointer (some ⟨sb, 0, none⟩), .int .i64 1048574, .string ⟨(secN S7 1).toArray⟩] W fun e w' => e = .returned (.int .i64 0) ∧ St w' sb (secs S7 2) ∧ Fr (Only sb) W w') := fun sb W h h1 h2 h3 => by
    have := add_st sb (secs S7 1) W h (1048575 - ((1 : Nat) : Int)) ⟨(secN S7 1).toArray⟩ (by show (secN S7 1).toArray.size ≤ maxLen; unfold maxLen; omega) h1 h2 h3
    rw [p1, p1'] at this
    exact this
  have GT : Hid (∀ sb W, St W sb (secs S7 2) → LibOk W → Tab W → Calls Tryd.prog 20 #[.pointer (some ⟨sb, 0, none⟩), .int .i64 1048575] W fun e w' => e = .returned (.tuple #[.string ⟨(secN S7 0).toArray⟩, .int .i64 0]) ∧ Below W.heap.size W w') := fun sb W h h1 h2 => by
    have := get_st sb (secs S7 2) W h 1048575 h1 h2
    rw [g0] at this
    exact this
  have KP : Hid (∀ sb W, St W sb (secs S7 2) → Calls Tryd.prog 19 #[.pointer (some ⟨sb, 0, none⟩)] W fun e w' => e = .returned (.int .i64 1) ∧ Below W.heap.size W w') := fun sb W h => by
    have := kept_st sb (secs S7 2) W h
    rw [kept_two] at this
    exact this
  have CN : Hid (∀ sb W, St W sb (secs S7 2) → Calls Tryd.prog 18 #[.pointer (some ⟨sb, 0, none⟩)] W fun e w' => e = .returned (.int .i64 2) ∧ Below W.heap.size W w') := fun sb W h => by
    have := count_st sb (secs S7 2) W h
    rw [secs_len] at this
    exact this
  clear q0 q1 p0 p0' p1 p1' r1 r2 z0 z1 g0 hu
  generalize (⟨(secN S7 0).toArray⟩ : ByteArray) = t0 at CT A0 GT
  generalize (⟨(secN S7 1).toArray⟩ : ByteArray) = t1 at CU A2
  generalize secs S7 1 = H1 at A0 A1 A2
  generalize secs S7 2 = H2 at A2 GT KP CN
  go_enter Tryd.func14, Tryd.ntmps14
  go_wp2_with (first
    | (go_at_call 12; (with_reducible refine Calls.mono (C5.out _ HL.out HT.out) ?_); rintro e w1 ⟨rfl, hb1⟩; have B1 := Lib.hid hb1; clear hb1)
    | (go_at_call 16; (with_reducible refine Calls.mono (new_st _) ?_); intro e w2 ht; obtain ⟨sb, hsb⟩ : ∃ sb, w1.heap.size = sb := ⟨_, rfl⟩; rw [hsb] at ht; obtain ⟨rfl, hs2, hb2⟩ := ht; have S2 := Lib.hid hs2; have hbase : w.heap.size ≤ sb := (by rw [← hsb]; exact B1.out.size); have B2 := Lib.hid (B1.out.trans (hb2.mono hbase)); clear hs2 hb2 hsb)
    | (go_at_call 12; (with_reducible refine Calls.mono (CT.out _ (HL.out.below B2.out) (HT.out.below B2.out)) ?_); rintro e w3 ⟨rfl, hb3⟩; have B3 := Lib.hid (B2.out.trans (hb3.mono B2.out.size)); have S3 := Lib.hid (S2.out.below hb3); clear hb3)
    | (go_at_call 12; (with_reducible refine Calls.mono (CU.out _ (HL.out.below B3.out) (HT.out.below B3.out)) ?_); rintro e w4 ⟨rfl, hb4⟩; have B4 := Lib.hid (B3.out.trans (hb4.mono B3.out.size)); have S4 := Lib.hid (S3.out.below hb4); clear hb4)
    | (go_at_call 17; (with_reducible refine Calls.mono (A0.out _ _ S4.out (HL.out.below B4.out) (HT.out.below B4.out) (HD.out.below B4.out)) ?_); rintro e w5 ⟨rfl, hs5, hf5⟩; have S5 := Lib.hid hs5; have B5 := Lib.hid (B4.out.trans (hf5.only hbase B4.out.size)); clear hs5 hf5)
    | (go_at_call 17; (with_reducible refine Calls.mono (A1.out _ _ S5.out (HL.out.below B5.out) (HT.out.below B5.out) (HD.out.below B5.out)) ?_); rintro e w6 ⟨rfl, hs6, hf6⟩; have S6 := Lib.hid hs6; have B6 := Lib.hid (B5.out.trans (hf6.only hbase B5.out.size)); clear hs6 hf6)
    | (go_at_call 17; (with_reducible refine Calls.mono (A2.out _ _ S6.out (HL.out.below B6.out) (HT.out.below B6.out) (HD.out.below B6.out)) ?_); rintro e w7 ⟨rfl, hs7, hf7⟩; have S7' := Lib.hid hs7; have B7 := Lib.hid (B6.out.trans (hf7.only hbase B6.out.size)); clear hs7 hf7)
    | (go_at_call 20; (with_reducible refine Calls.mono (GT.out _ _ S7'.out (HL.out.below B7.out) (HT.out.below B7.out)) ?_); rintro e w8 ⟨rfl, hb8⟩; have B8 := Lib.hid (B7.out.trans (hb8.mono B7.out.size)); have S8 := Lib.hid (S7'.out.below hb8); clear hb8)
    | (go_at_call 19; (with_reducible refine Calls.mono (KP.out _ _ S8.out) ?_); rintro e w9 ⟨rfl, hb9⟩; have B9 := Lib.hid (B8.out.trans (hb9.mono B8.out.size)); have S9 := Lib.hid (S8.out.below hb9); clear hb9)
    | (go_at_call 18; (with_reducible refine Calls.mono (CN.out _ _ S9.out) ?_); rintro e w10 ⟨rfl, hb10⟩; have B10 := Lib.hid (B9.out.trans (hb10.mono B9.out.size)); clear hb10))
  go_ret
  exact ⟨rfl, B10.out⟩
set_option maxRecDepth 100000 in
set_option maxHeartbeats 4000000 in
theorem seedSecrets_any (s : ByteArray) (i : Int) (w : World) (hs : s.size ≤ maxLen) (hL : LibOk w) (hT : Tab w) (hD : Bru w) : Calls Tryd.prog 3 #[.string s, .int .i64 i] w fun e w' => e = .returned (.bool true) ∧ Below w.heap.size w w' := by
  have HP := Lib.hid (secret_any s i w hs hL hT)
  have HR := Lib.hid (fun W => rsecret_any s i W hs)
  obtain ⟨u, n, hv⟩ := secV_form s i
  rw [hv] at HP HR
  have HL := Lib.hid hL
  have HT := Lib.hid hT
  have HD := Lib.hid hD
  clear hL hT hD hv
  unfold maxLen at hs
  by_cases h : 20000 < s.size
  · have hi : (20000 : Int) < (s.size : Int) := by omega
    go_enter Tryd.func3, Tryd.ntmps3
    go_wp2_with fail
    go_ret
    exact ⟨rfl, Below.refl _ _⟩
  · have hi : (s.size : Int) ≤ 20000 := by omega
    go_enter Tryd.func3, Tryd.ntmps3
    go_wp2_with (first
      | (go_at_call 12; (with_reducible refine Calls.mono HP.out ?_); rintro e w1 ⟨rfl, hb1⟩; have B1 := Lib.hid hb1; clear hb1)
      | (go_at_call 13; (with_reducible refine Calls.mono (HR.out _) ?_); rintro e w2 ⟨rfl, hb2⟩; have B2 := Lib.hid (B1.out.trans (hb2.mono B1.out.size)); clear hb2)
      | (go_at_call 14; (with_reducible refine Calls.mono (works_any _ (HL.out.below B2.out) (HT.out.below B2.out) (HD.out.below B2.out)) ?_); rintro e w3 ⟨rfl, hb3⟩; have B3 := Lib.hid (B2.out.trans (hb3.mono B2.out.size)); clear hb3))
    go_ret
    exact ⟨rfl, B3.out⟩
set_option maxRecDepth 100000 in
set_option maxHeartbeats 4000000 in
theorem seedNone_any (i : Int) (t : ByteArray) (w : World) (hL : LibOk w) (hT : Tab w) (hD : Bru w) : Calls Tryd.prog 6 #[.int .i64 i, .string t] w fun e w' => e = .returned (.bool true) ∧ Below w.heap.size w w' := by
  have HL := Lib.hid hL
  have HT := Lib.hid hT
  have HD := Lib.hid hD
  clear hL hT hD
  go_enter Tryd.func6, Tryd.ntmps6
  go_wp2_with (first
    | (go_at_call 20; (with_reducible refine Calls.mono (get_nil _ _) ?_); rintro e w1 ⟨rfl, hb1⟩; have B1 := Lib.hid hb1; clear hb1)
    | (go_at_call 17; (with_reducible refine Calls.mono (add_nil _ _ _) ?_); rintro e w2 ⟨rfl, hb2⟩; have B2 := Lib.hid (B1.out.trans (hb2.mono B1.out.size)); clear hb2)
    | (go_at_call 18; (with_reducible refine Calls.mono (count_nil _) ?_); rintro e w3 ⟨rfl, hb3⟩; have B3 := Lib.hid (B2.out.trans (hb3.mono B2.out.size)); clear hb3)
    | (go_at_call 19; (with_reducible refine Calls.mono (kept_nil _) ?_); rintro e w4 ⟨rfl, hb4⟩; have B4 := Lib.hid (B3.out.trans (hb4.mono B3.out.size)); clear hb4)
    | (go_at_call 23; (with_reducible refine Calls.mono (copy_nil _) ?_); rintro e w5 ⟨rfl, hb5⟩; have B5 := Lib.hid (B4.out.trans (hb5.mono B4.out.size)); clear hb5)
    | (go_at_call 14; (with_reducible refine Calls.mono (works_any _ (HL.out.below B5.out) (HT.out.below B5.out) (HD.out.below B5.out)) ?_); rintro e w6 ⟨rfl, hb6⟩; have B6 := Lib.hid (B5.out.trans (hb6.mono B5.out.size)); clear hb6))
  go_ret
  exact ⟨rfl, B6.out⟩
end Go.Proofs.YtnaodgljdbkmnaaDoor
