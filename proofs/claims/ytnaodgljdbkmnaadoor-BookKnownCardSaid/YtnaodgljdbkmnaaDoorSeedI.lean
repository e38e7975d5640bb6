/- seed: SeedTells, walked. -/
import Derived.Test.YtnaodgljdbkmnaaDoorSeedH
import Derived.Deep.AppendLies
namespace Go.Proofs.YtnaodgljdbkmnaaDoor
set_option linter.unusedVariables false
open Go.RowKit
/-- a row of strings -/
def strV (l : List UInt8) : Value := .string ⟨l.toArray⟩
theorem lt_of_heap {w : World} {b : Nat} {o : Obj} (h : w.heap[b]? = some o) : b < w.heap.size := (Array.getElem?_eq_some_iff.1 h).1
theorem own_slice {w : World} {base E size n : Nat} {v : Value} {xs : List Value} (h : w.ownsRow base E size v n xs) : ∃ a c, v = .slice a n c := by
  rcases h.2 with ⟨rfl, rfl⟩ | ⟨g, cap, cur, rfl, _⟩
  · exact ⟨none, 0, rfl⟩
  · exact ⟨_, cap, rfl⟩
theorem own_blocks {w w' : World} {base E size n : Nat} {v : Value} {xs : List Value} (h : w.ownsRow base E size v n xs) (hk : ∀ g, v.ownBlock = some g → w'.heap[g]? = w.heap[g]?) : w'.ownsRow base E size v n xs := by
  refine ⟨h.1, ?_⟩
  rcases h.2 with hn | ⟨g, cap, cur, rfl, hb, hgg, rest⟩
  · exact .inl hn
  · exact .inr ⟨g, cap, cur, rfl, hb, (hk g rfl).trans hgg, rest⟩
theorem own_below {w w' : World} {base E size n : Nat} {v : Value} {xs : List Value} (h : w.ownsRow base E size v n xs) (hb : Below w.heap.size w w') : w'.ownsRow base E size v n xs := own_blocks h fun g hg => hb.block g (h.lt g hg).2
theorem own_apart {w : World} {base size n : Nat} {v : Value} {xs : List Value} {sb : Nat} {H : List (List UInt8)} (h : w.ownsRow base 22 size v n xs) (hs : St w sb H) : ∀ g, v.ownBlock = some g → g ≠ sb := by
  rintro g hg rfl
  obtain ⟨_, f, _, hA⟩ := hs
  rcases h.2 with ⟨rfl, _⟩ | ⟨g', cap, cur, rfl, hb, hgg, _⟩
  · cases hg
  · simp only [Value.ownBlock, Option.some.injEq] at hg
    subst hg
    unfold StAt at hA
    rw [hA] at hgg
    injection hgg with hgg
    injection hgg with _ hgg
    cases hgg
theorem own_fr {w w' : World} {base size n : Nat} {v : Value} {xs : List Value} {sb : Nat} {H : List (List UInt8)} (h : w.ownsRow base 22 size v n xs) (hs : St w sb H) (hf : Fr (Only sb) w w') : w'.ownsRow base 22 size v n xs :=
  own_blocks h fun g hg => hf.block g (h.lt g hg).2 (own_apart h hs g hg)
theorem St.grown {w w' : World} {sb : Nat} {H : List (List UInt8)} {row : Option Nat} (h : St w sb H) (hg : w.grownBy w' row) (hr : ∀ g, row = some g → g ≠ sb) : St w' sb H := by
  obtain ⟨hG, g, hO, hA⟩ := h
  exact ⟨hG, g, hO, (hg.block sb hA.lt (fun e => hr sb e.symm rfl)).trans hA⟩
theorem Try.info22 : (Tryd.prog.info? 22).map (fun i => (i.zero, i.size, i.bytes)) = some (some (.string ⟨#[]⟩), 1, 16) := by kernel_rfl
set_option maxRecDepth 100000 in
set_option maxHeartbeats 4000000 in
theorem pick_any (n : Int) (m : Nat) (w : World) (h0 : 0 < m) (hm : m ≤ 1000000) : Calls Tryd.prog 15 #[.int .i64 n, .int .i64 m] w fun e w' => ∃ r : Nat, r < m ∧ e = .returned (.int .i64 r) ∧ Below w.heap.size w w' := by
  have hmi : 0 < (m : Int) := by omega
  have hmi2 : (m : Int) ≤ 1000000 := by omega
  have hx1 := Int.tmod_lt_of_pos n hmi
  have hx0 := Int.lt_tmod_of_pos n hmi
  obtain ⟨x, hx⟩ : ∃ x, n.tmod m = x := ⟨_, rfl⟩
  rw [hx] at hx0 hx1
  have hy1 := Int.tmod_lt_of_pos (x + m) hmi
  have hy0 := Int.tmod_nonneg (m : Int) (show 0 ≤ x + (m : Int) by omega)
  obtain ⟨y, hy⟩ : ∃ y, (x + m).tmod (m : Int) = y := ⟨_, rfl⟩
  rw [hy] at hy0 hy1
  have hm0 : ((m : Int) == 0) = false := by simp; omega
  go_enter Tryd.func15, Tryd.ntmps15
  go_wp2_with fail
  go_ret
  exact ⟨y.toNat, by omega, by show Ending.returned (.int .i64 y) = _; rw [Int.toNat_of_nonneg hy0], Below.refl _ _⟩
theorem secs_at {s : List UInt8} {n j : Nat} (h : j < n) : (secs s n)[j]? = some (secN s j) := by
  unfold secs secN
  rw [List.getElem?_map, List.getElem?_range h]; rfl
theorem getV_sec {s : List UInt8} {n j : Nat} (h : j < n) (hn : n ≤ TOP) : getV (secs s n) (1048575 - (j : Int)) = .tuple #[.string ⟨(secN s j).toArray⟩, .int .i64 0] := by
  have hT : TOP = 1048575 := rfl
  unfold getV
  rw [secs_len, if_neg (by omega)]
  have e : (1048575 - (j : Int)).toNat = TOP - j := by omega
  rw [e]
  unfold valP
  rw [show TOP - (TOP - j) = j by omega, List.getD_eq_getElem?_getD, secs_at h]; rfl
theorem getV_end {s : List UInt8} {n : Nat} : getV (secs s n) (1048575 - (n : Int)) = .tuple #[.string ⟨#[]⟩, .int .i64 5] := by
  unfold getV
  rw [secs_len, if_pos (.inr (Int.le_refl _))]
theorem secV_top (s : ByteArray) : (∃ u, secV s 1048575 = .tuple #[.string u, .int .i64 0] ∧ rightB s.data.toList = true ∧ ∃ v, onO s.data.toList TOP 20 = some v) ∨ ∃ u n, secV s 1048575 = .tuple #[.string u, .int .i64 n] ∧ (n == 0) = false := by
  by_cases hr : rt s = true
  · rw [show (1048575 : Int) = ((1048575 : Nat) : Int) from rfl, secV_in hr (by omega)]
    unfold onV
    cases h : onO s.data.toList 1048575 20 with
    | none => exact .inr ⟨_, _, rfl, by decide⟩
    | some v => exact .inl ⟨_, rfl, hr, v, h⟩
  · refine .inr ⟨⟨#[]⟩, 10, ?_, by decide⟩
    unfold secV
    rw [if_neg (by omega), if_neg hr]
set_option maxRecDepth 100000 in
set_option maxHeartbeats 8000000 in
theorem seedTells_any (s : ByteArray) (n0 : Int) (wr0 : ByteArray) (w : World) (hs : s.size ≤ maxLen) (hw : wr0.size ≤ maxLen) (hL : LibOk w) (hT : Tab w) (hD : Bru w) : Calls Tryd.prog 4 #[.string s, .int .i64 n0, .string wr0] w fun e w' => e = .returned (.bool true) ∧ Below w.heap.size w w' := by
  have HP := Lib.hid (secret_any s 1048575 w hs hL hT)
  have HSE := Lib.hid (fun (W : World) (i : Int) (h1 : LibOk W) (h2 : Tab W) => secret_any s i W hs h1 h2)
  have HL := Lib.hid hL
  have HT := Lib.hid hT
  have HD := Lib.hid hD
  clear hL hT hD
  have hs0 := Lib.hid hs
  have hw0 := Lib.hid hw
  unfold maxLen at hs hw
  by_cases h : 300 < s.size
  · have hi : (300 : Int) < (s.size : Int) := by omega
    go_enter Tryd.func4, Tryd.ntmps4
    go_wp2_with fail
    go_ret
    exact ⟨rfl, Below.refl _ _⟩
  have hi : (s.size : Int) ≤ 300 := by omega
  by_cases h' : 300 < wr0.size
  · have hi' : (300 : Int) < (wr0.size : Int) := by omega
    go_enter Tryd.func4, Tryd.ntmps4
    go_wp2_with fail
    go_ret
    exact ⟨rfl, Below.refl _ _⟩
  have hi' : (wr0.size : Int) ≤ 300 := by omega
  clear h h'
  rcases secV_top s with ⟨u, hv, hsr, uu, hu⟩ | ⟨u, m, hv, hm⟩
  · rw [hv] at HP
    clear hv
    have PK := Lib.hid (fun W => pick_any n0 300 W (by omega) (by omega))
    go_enter Tryd.func4, Tryd.ntmps4
    go_upto_region 9 with (first
      | (go_at_call 12; (with_reducible refine Calls.mono HP.out ?_); rintro e w1 ⟨rfl, hb1⟩; have B1 := Lib.hid hb1; clear hb1)
      | (go_at_call 15; (with_reducible refine Calls.mono (PK.out _) ?_); rintro e w2 ⟨r, hr3, rfl, hb2⟩; have B2 := Lib.hid (B1.out.trans (hb2.mono B1.out.size)); clear hb2)
      | (go_at_call 16; (with_reducible refine Calls.mono (new_st _) ?_); intro e w3 ht; obtain ⟨sb, hsb⟩ : ∃ sb, w2.heap.size = sb := ⟨_, rfl⟩; rw [hsb] at ht; obtain ⟨rfl, hs3, hb3⟩ := ht; have S3 := Lib.hid hs3; have hbase : w.heap.size ≤ sb := (by rw [← hsb]; exact B2.out.size); have B3 := Lib.hid (B2.out.trans (hb3.mono hbase)); clear hs3 hb3 hsb))
    obtain ⟨S, hS⟩ : ∃ S, s.data.toList = S := ⟨_, rfl⟩
    have hSs : s = ⟨S.toArray⟩ := by rw [← hS, ba_back]
    rw [hS] at hsr hu
    have HSR := Lib.hid hsr
    have HU := Lib.hid hu
    have HSS := Lib.hid hSs
    clear hsr hu hSs hS
    have hr9 : (r : Int) < 300 := by omega
    obtain ⟨i0, hi0, hz0, hz1, hz2⟩ := info_parts Try.info22
    go_wp2_with fail
    go_loopw [10, 11] (fun lv iv wr => ∃ (i : Nat), i ≤ r ∧ iv = .int .i64 i ∧ Hid (St wr sb (secs S i)) ∧ Hid (wr.ownsRow w.heap.size 22 1 lv i ((secs S i).map strV)) ∧ Hid (Below w.heap.size w wr)) (fun _ iv _ => r - (intOf iv).toNat)
    case atStart => exact ⟨0, Nat.zero_le _, rfl, S3.out, World.ownsRow_nil _ _ _ _, B3.out⟩
    case round =>
      obtain ⟨i, hir, rfl, hSt, hO, hB⟩ := hrel
      have hBs := hB.out.size
      obtain ⟨la, lc, rfl⟩ := own_slice hO.out
      by_cases hlt : i < r
      · have hii : (i : Int) < (r : Int) := by omega
        have hiT : i ≤ TOP := by have : TOP = 1048575 := rfl; omega
        have q := secV_sec HSR.out HU.out hiT
        obtain ⟨p, p'⟩ := add_sec HSR.out HU.out hiT
        have HQ : Hid (∀ W, LibOk W → Tab W → Calls Tryd.prog 12 #[.string s, .int .i64 (1048575 - (i : Int))] W fun e w' => e = .returned (.tuple #[.string ⟨(secN S i).toArray⟩, .int .i64 0]) ∧ Below W.heap.size W w') := fun W h1 h2 => by
          have := HSE.out W (1048575 - (i : Int)) h1 h2
          rw [HSS.out] at this ⊢
          rw [q] at this
          exact this
        obtain ⟨tt, htt, htr⟩ := sec_there HSR.out HU.out (TOP - i)
        have hts : (⟨(secN S i).toArray⟩ : ByteArray).size ≤ maxLen := by
          have := right_size (v := ⟨(secN S i).toArray⟩) (by unfold rt secN; rw [ba_list, htt]; exact htr)
          unfold maxLen; omega
        have HA : Hid (∀ W, St W sb (secs S i) → LibOk W → Tab W → Bru W → Calls Tryd.prog 17 #[.pointer (some ⟨sb, 0, none⟩), .int .i64 (1048575 - (i : Int)), .string ⟨(secN S i).toArray⟩] W fun e w' => e = .returned (.int .i64 0) ∧ St w' sb (secs S (i + 1)) ∧ Fr (Only sb) W w') := fun W h h1 h2 h3 => by
          have := add_st sb (secs S i) W h (1048575 - (i : Int)) ⟨(secN S i).toArray⟩ hts h1 h2 h3
          rw [p, p'] at this
          exact this
        have HK : Hid (∀ W, St W sb (secs S (i + 1)) → Calls Tryd.prog 19 #[.pointer (some ⟨sb, 0, none⟩)] W fun e w' => ∃ k : Nat, k ≤ 21 ∧ e = .returned (.int .i64 k) ∧ Below W.heap.size W w') := fun W h => by
          refine (kept_st sb (secs S (i + 1)) W h).mono fun e w' ⟨he, hb⟩ => ⟨_, ?_, he, hb⟩
          obtain ⟨hG, g, ⟨sp, hsp, _⟩, _⟩ := h
          exact kept_21 hG.many hsp
        have HN := Lib.hid (show (secs S (i + 1)).map strV = (secs S i).map strV ++ [strV (secN S i)] by rw [secs_succ, List.map_append]; rfl)
        have HC : Hid (∀ W, St W sb (secs S i) → Calls Tryd.prog 18 #[.pointer (some ⟨sb, 0, none⟩)] W fun e w' => e = .returned (.int .i64 i) ∧ Below W.heap.size W w') := fun W h => by
          have := count_st sb (secs S i) W h
          rw [secs_len] at this
          exact this
        have HAW : Hid (i % 2 = 1 → wr0 ≠ ⟨(secN S i).toArray⟩ → ∃ X : Int, (X == 0) = false ∧ ∀ W, St W sb (secs S i) → LibOk W → Tab W → Bru W → Calls Tryd.prog 17 #[.pointer (some ⟨sb, 0, none⟩), .int .i64 (1048575 - (i : Int)), .string wr0] W fun e w' => e = .returned (.int .i64 X) ∧ St w' sb (secs S i) ∧ Fr (Only sb) W w') := fun hodd hne => by
          obtain ⟨a1, a2, _⟩ := add_wrong (wr := wr0.data.toList) HSR.out HU.out hiT hodd (fun e => hne (by rw [← e, ba_back]))
          rw [ba_back] at a1 a2
          refine ⟨_, by simpa using a1, fun W h h1 h2 h3 => ?_⟩
          have := add_st sb (secs S i) W h (1048575 - (i : Int)) wr0 hw0.out h1 h2 h3
          rw [a2] at this
          exact this
        obtain ⟨L, hLL⟩ : ∃ L, (secs S i).map strV = L := ⟨_, rfl⟩
        rw [hLL] at HN hO
        obtain ⟨t, htt2⟩ : ∃ t : ByteArray, (⟨(secN S i).toArray⟩ : ByteArray) = t := ⟨_, rfl⟩
        have htv : strV (secN S i) = .string t := by unfold strV; rw [htt2]
        rw [htv] at HN
        rw [htt2] at HQ HA HAW
        clear q p p' htt htr hts hLL htt2 htv tt
        obtain ⟨z, hz⟩ : ∃ z : Int, (i : Int).tmod 2 = z := ⟨_, rfl⟩
        have hz' : z = ((i % 2 : Nat) : Int) := by rw [← hz]; rfl
        by_cases hodd : i % 2 = 1
        · have hz1' : z = 1 := by omega
          subst hz1'
          by_cases hne : wr0 = t
          · subst hne
            clear HAW hz' hodd
            go_wp2_with (first
              | (go_at_call 12; (with_reducible refine Calls.mono (HQ.out _ (HL.out.below hB.out) (HT.out.below hB.out)) ?_); rintro e w5 ⟨rfl, hb5⟩; have B5 := Lib.hid (hB.out.trans (hb5.mono hBs)); have S5 := Lib.hid (hSt.out.below hb5); have O5 := Lib.hid (own_below hO.out hb5); clear hb5)
              | (go_at_call 17; (with_reducible refine Calls.mono (HA.out _ S5.out (HL.out.below B5.out) (HT.out.below B5.out) (HD.out.below B5.out)) ?_); rintro e w8 ⟨rfl, hs8, hf8⟩; have B8 := Lib.hid (B5.out.trans (hf8.only hbase B5.out.size)); have S8 := Lib.hid hs8; have O8 := Lib.hid (own_fr O5.out S5.out hf8); clear hs8 hf8)
              | (go_at_call 19; (with_reducible refine Calls.mono (HK.out _ S8.out) ?_); rintro e w9 ⟨k, hk21, rfl, hb9⟩; have B9 := Lib.hid (B8.out.trans (hb9.mono B8.out.size)); have S9 := Lib.hid (S8.out.below hb9); have O9 := Lib.hid (own_below O8.out hb9); have z9 := B9.out.size; have hk21' : (k : Int) ≤ 21 := (by omega); clear hb9)
              | (at_builtin; refine wpList_append_lies _ rfl _ _ _ rfl w.heap.size 22 i0 _ 1 16 Tryd.underlying31 hi0 hz0 hz1 hz2 rfl (by omega) (.slice la i lc) i L rfl (World.ownsRow.alloc O9.out _) ⟨w9.heap.size, 0, none⟩ 1 1 [.string wr0] rfl rfl (World.news_of_block (cs := #[.string wr0]) (t := 22) (fr := (0, 0)) (heap_alloc_at w9 _)) (by simp [Value.oneCell']) (by omega) (by unfold maxLen; omega) (by omega) (by simp; omega) (w9.heap.size + 1) (by simp) ?_; intro g cap w2 hown2 hgrow2 hat2 hlt2; have S10 := Lib.hid ((S9.out.below (Below.alloc (Below.refl _ _) (Nat.le_refl _) (.cells #[.string wr0] 22))).grown hgrow2 (own_apart (World.ownsRow.alloc O9.out (.cells #[.string wr0] 22)) (S9.out.below (Below.alloc (Below.refl _ _) (Nat.le_refl _) (.cells #[.string wr0] 22))))); have B10 := Lib.hid ((B9.out.alloc z9 (.cells #[.string wr0] 22)).grown hgrow2 (by simp; omega) (fun k hk => (World.ownsRow.lt (World.ownsRow.alloc O9.out (.cells #[.string wr0] 22)) k hk).1)); have O10 := Lib.hid hown2; clear hown2 hgrow2 hat2))
            go_roundw
            case rel => exact ⟨i + 1, by omega, by go_num, S10.out, Lib.hid (by rw [HN.out]; exact O10.out), B10.out⟩
            case measure => (simp [intOf] <;> omega)
          · obtain ⟨X, hX, HAX⟩ := HAW.out hodd hne
            have HAX := Lib.hid HAX
            have hnl := toList_ne hne
            have hnn := str_neq _ _ hne
            clear HAW hz' hodd
            go_wp2_with (first
              | (go_at_call 12; (with_reducible refine Calls.mono (HQ.out _ (HL.out.below hB.out) (HT.out.below hB.out)) ?_); rintro e w5 ⟨rfl, hb5⟩; have B5 := Lib.hid (hB.out.trans (hb5.mono hBs)); have S5 := Lib.hid (hSt.out.below hb5); have O5 := Lib.hid (own_below hO.out hb5); clear hb5)
              | (go_at_call 17; (with_reducible refine Calls.mono (HAX.out _ S5.out (HL.out.below B5.out) (HT.out.below B5.out) (HD.out.below B5.out)) ?_); rintro e w6 ⟨rfl, hs6, hf6⟩; have B6 := Lib.hid (B5.out.trans (hf6.only hbase B5.out.size)); have S6 := Lib.hid hs6; have O6 := Lib.hid (own_fr O5.out S5.out hf6); clear hs6 hf6)
              | (go_at_call 18; (with_reducible refine Calls.mono (HC.out _ S6.out) ?_); rintro e w7 ⟨rfl, hb7⟩; have B7 := Lib.hid (B6.out.trans (hb7.mono B6.out.size)); have S7' := Lib.hid (S6.out.below hb7); have O7 := Lib.hid (own_below O6.out hb7); clear hb7)
              | (go_at_call 17; (with_reducible refine Calls.mono (HA.out _ S7'.out (HL.out.below B7.out) (HT.out.below B7.out) (HD.out.below B7.out)) ?_); rintro e w8 ⟨rfl, hs8, hf8⟩; have B8 := Lib.hid (B7.out.trans (hf8.only hbase B7.out.size)); have S8 := Lib.hid hs8; have O8 := Lib.hid (own_fr O7.out S7'.out hf8); clear hs8 hf8)
              | (go_at_call 19; (with_reducible refine Calls.mono (HK.out _ S8.out) ?_); rintro e w9 ⟨k, hk21, rfl, hb9⟩; have B9 := Lib.hid (B8.out.trans (hb9.mono B8.out.size)); have S9 := Lib.hid (S8.out.below hb9); have O9 := Lib.hid (own_below O8.out hb9); have z9 := B9.out.size; have hk21' : (k : Int) ≤ 21 := (by omega); clear hb9)
              | (at_builtin; refine wpList_append_lies _ rfl _ _ _ rfl w.heap.size 22 i0 _ 1 16 Tryd.underlying31 hi0 hz0 hz1 hz2 rfl (by omega) (.slice la i lc) i L rfl (World.ownsRow.alloc O9.out _) ⟨w9.heap.size, 0, none⟩ 1 1 [.string t] rfl rfl (World.news_of_block (cs := #[.string t]) (t := 22) (fr := (0, 0)) (heap_alloc_at w9 _)) (by simp [Value.oneCell']) (by omega) (by unfold maxLen; omega) (by omega) (by simp; omega) (w9.heap.size + 1) (by simp) ?_; intro g cap w2 hown2 hgrow2 hat2 hlt2; have S10 := Lib.hid ((S9.out.below (Below.alloc (Below.refl _ _) (Nat.le_refl _) (.cells #[.string t] 22))).grown hgrow2 (own_apart (World.ownsRow.alloc O9.out (.cells #[.string t] 22)) (S9.out.below (Below.alloc (Below.refl _ _) (Nat.le_refl _) (.cells #[.string t] 22))))); have B10 := Lib.hid ((B9.out.alloc z9 (.cells #[.string t] 22)).grown hgrow2 (by simp; omega) (fun k hk => (World.ownsRow.lt (World.ownsRow.alloc O9.out (.cells #[.string t] 22)) k hk).1)); have O10 := Lib.hid hown2; clear hown2 hgrow2 hat2))
            go_roundw
            case rel => exact ⟨i + 1, by omega, by go_num, S10.out, Lib.hid (by rw [HN.out]; exact O10.out), B10.out⟩
            case measure => (simp [intOf] <;> omega)
        · have hz1' : z = 0 := by omega
          subst hz1'
          clear HAW hz' hodd
          go_wp2_with (first
            | (go_at_call 12; (with_reducible refine Calls.mono (HQ.out _ (HL.out.below hB.out) (HT.out.below hB.out)) ?_); rintro e w5 ⟨rfl, hb5⟩; have B5 := Lib.hid (hB.out.trans (hb5.mono hBs)); have S5 := Lib.hid (hSt.out.below hb5); have O5 := Lib.hid (own_below hO.out hb5); clear hb5)
            | (go_at_call 17; (with_reducible refine Calls.mono (HA.out _ S5.out (HL.out.below B5.out) (HT.out.below B5.out) (HD.out.below B5.out)) ?_); rintro e w8 ⟨rfl, hs8, hf8⟩; have B8 := Lib.hid (B5.out.trans (hf8.only hbase B5.out.size)); have S8 := Lib.hid hs8; have O8 := Lib.hid (own_fr O5.out S5.out hf8); clear hs8 hf8)
            | (go_at_call 19; (with_reducible refine Calls.mono (HK.out _ S8.out) ?_); rintro e w9 ⟨k, hk21, rfl, hb9⟩; have B9 := Lib.hid (B8.out.trans (hb9.mono B8.out.size)); have S9 := Lib.hid (S8.out.below hb9); have O9 := Lib.hid (own_below O8.out hb9); have z9 := B9.out.size; have hk21' : (k : Int) ≤ 21 := (by omega); clear hb9)
            | (at_builtin; refine wpList_append_lies _ rfl _ _ _ rfl w.heap.size 22 i0 _ 1 16 Tryd.underlying31 hi0 hz0 hz1 hz2 rfl (by omega) (.slice la i lc) i L rfl (World.ownsRow.alloc O9.out _) ⟨w9.heap.size, 0, none⟩ 1 1 [.string t] rfl rfl (World.news_of_block (cs := #[.string t]) (t := 22) (fr := (0, 0)) (heap_alloc_at w9 _)) (by simp [Value.oneCell']) (by omega) (by unfold maxLen; omega) (by omega) (by simp; omega) (w9.heap.size + 1) (by simp) ?_; intro g cap w2 hown2 hgrow2 hat2 hlt2; have S10 := Lib.hid ((S9.out.below (Below.alloc (Below.refl _ _) (Nat.le_refl _) (.cells #[.string t] 22))).grown hgrow2 (own_apart (World.ownsRow.alloc O9.out (.cells #[.string t] 22)) (S9.out.below (Below.alloc (Below.refl _ _) (Nat.le_refl _) (.cells #[.string t] 22))))); have B10 := Lib.hid ((B9.out.alloc z9 (.cells #[.string t] 22)).grown hgrow2 (by simp; omega) (fun k hk => (World.ownsRow.lt (World.ownsRow.alloc O9.out (.cells #[.string t] 22)) k hk).1)); have O10 := Lib.hid hown2; clear hown2 hgrow2 hat2))
          go_roundw
          case rel => exact ⟨i + 1, by omega, by go_num, S10.out, Lib.hid (by rw [HN.out]; exact O10.out), B10.out⟩
          case measure => (simp [intOf] <;> omega)
      · obtain rfl : i = r := by omega
        have HV := Lib.hid hO.out
        have HS4 := Lib.hid hSt.out
        have HB4 := Lib.hid hB.out
        clear hSt hO hB hlt hir
        obtain ⟨wo, rfl⟩ : ∃ wo : World, wo = wr := ⟨_, rfl⟩
        go_wp2_with fail
        go_loopw [16] (fun jv wr => ∃ j : Nat, j ≤ i ∧ jv = .int .i64 j ∧ Hid (Below wo.heap.size wo wr)) (fun jv _ => i - (intOf jv).toNat)
        case atStart => exact ⟨0, Nat.zero_le _, rfl, Below.refl _ _⟩
        case round =>
          obtain ⟨j, hj, rfl, hB⟩ := hrel
          have hBj := Lib.hid (HB4.out.trans (hB.out.mono HB4.out.size))
          have hSj := Lib.hid (HS4.out.below hB.out)
          have hOj := Lib.hid (own_below HV.out hB.out)
          by_cases hlt : j < i
          · have hji : (j : Int) < (i : Int) := by omega
            obtain ⟨g, cap, hform, _, _⟩ := hOj.out.form (by omega)
            cases hform
            have hcell := hOj.out.cells (g := g) rfl j (strV (secN S j)) (by rw [List.getElem?_map, secs_at hlt]; rfl)
            rw [Addr.add_mid, Nat.zero_add] at hcell
            have HG : Hid (∀ W, St W sb (secs S i) → LibOk W → Tab W → Calls Tryd.prog 20 #[.pointer (some ⟨sb, 0, none⟩), .int .i64 (1048575 - (j : Int))] W fun e w' => e = .returned (.tuple #[.string ⟨(secN S j).toArray⟩, .int .i64 0]) ∧ Below W.heap.size W w') := fun W h h1 h2 => by
              have := get_st sb (secs S i) W h (1048575 - (j : Int)) h1 h2
              rw [getV_sec hlt (by have : TOP = 1048575 := rfl; omega)] at this
              exact this
            unfold strV at hcell
            generalize (⟨(secN S j).toArray⟩ : ByteArray) = t at hcell HG
            have hgl : g < wr.heap.size := World.block_lt_of_cell? wr _ hcell
            go_wp2_with (go_at_call 20; (with_reducible refine Calls.mono (HG.out _ hSj.out (HL.out.below hBj.out) (HT.out.below hBj.out)) ?_); rintro e w5 ⟨rfl, hb5⟩; have B5 := Lib.hid (hB.out.trans (hb5.mono hB.out.size)); obtain ⟨hc5, hf5⟩ := bcell hb5; have hc6 := (hc5 g j hgl).trans hcell; clear hb5 hc5 hf5)
            go_roundw
            case rel => exact ⟨j + 1, by omega, by go_num, B5.out⟩
            case measure => (simp [intOf] <;> omega)
          · obtain rfl : j = i := by omega
            have HG : Hid (∀ W, St W sb (secs S j) → LibOk W → Tab W → Calls Tryd.prog 20 #[.pointer (some ⟨sb, 0, none⟩), .int .i64 (1048575 - (j : Int))] W fun e w' => e = .returned (.tuple #[.string ⟨#[]⟩, .int .i64 5]) ∧ Below W.heap.size W w') := fun W h h1 h2 => by
              have := get_st sb (secs S j) W h (1048575 - (j : Int)) h1 h2
              rw [getV_end] at this
              exact this
            have HC : Hid (∀ W, St W sb (secs S j) → Calls Tryd.prog 18 #[.pointer (some ⟨sb, 0, none⟩)] W fun e w' => e = .returned (.int .i64 j) ∧ Below W.heap.size W w') := fun W h => by
              have := count_st sb (secs S j) W h
              rw [secs_len] at this
              exact this
            go_wp2_with (first
              | (go_at_call 20; (with_reducible refine Calls.mono (HG.out _ hSj.out (HL.out.below hBj.out) (HT.out.below hBj.out)) ?_); rintro e w5 ⟨rfl, hb5⟩; have S5 := Lib.hid (hSj.out.below hb5); have B5 := Lib.hid (hBj.out.trans (hb5.mono hBj.out.size)); clear hb5)
              | (go_at_call 18; (with_reducible refine Calls.mono (HC.out _ S5.out) ?_); rintro e w6 ⟨rfl, hb6⟩; have B6 := Lib.hid (B5.out.trans (hb6.mono B5.out.size)); clear hb6)
              | (go_at_call 14; (with_reducible refine Calls.mono (works_any _ (HL.out.below B6.out) (HT.out.below B6.out) (HD.out.below B6.out)) ?_); rintro e w7 ⟨rfl, hb7⟩; have B7 := Lib.hid (B6.out.trans (hb7.mono B6.out.size)); clear hb7))
            go_ret
            exact ⟨rfl, B7.out⟩
  · rw [hv] at HP
    clear hv
    go_enter Tryd.func4, Tryd.ntmps4
    go_wp2_with (first
      | (go_at_call 12; (with_reducible refine Calls.mono HP.out ?_); rintro e w1 ⟨rfl, hb1⟩; have B1 := Lib.hid hb1; clear hb1)
      | (go_at_call 14; (with_reducible refine Calls.mono (works_any _ (HL.out.below B1.out) (HT.out.below B1.out) (HD.out.below B1.out)) ?_); rintro e w2 ⟨rfl, hb2⟩; have B2 := Lib.hid (B1.out.trans (hb2.mono B1.out.size)); clear hb2))
    go_ret
    exact ⟨rfl, B2.out⟩
end Go.Proofs.YtnaodgljdbkmnaaDoor
