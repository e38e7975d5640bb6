/- TlvKnown, walked. -/
import Derived.Test.YtcdeggocnaodiaaKa
namespace Go.Proofs.Ytcdeggocnaodiaa
open Go.RowKit Tlv
theorem heap_old2 (w : World) (o p : Obj) : ((w.alloc o).alloc p).heap[w.heap.size]? = (w.alloc o).heap[w.heap.size]? := by
  show ((w.heap.push o).push p)[w.heap.size]? = (w.heap.push o)[w.heap.size]?
  rw [Array.getElem?_push, if_neg (by simp)]
theorem at_cell (w : World) (A D : Nat) (hA : w.heap[A]? = some (.cells #[.int .u64 0, .int .u64 252, .int .u64 253, .int .u64 254, .int .u64 65535, .int .u64 65536, .int .u64 4294967295, .int .u64 4294967296, .int .u64 18446744073709551615] 22 (0, 0))) (hD : w.heap[D]? = some (.cells #[.int .i64 1, .int .i64 1, .int .i64 3, .int .i64 3, .int .i64 3, .int .i64 5, .int .i64 5, .int .i64 9, .int .i64 9] 3 (0, 0))) (i : Nat) (hi : i < 9) :
    ∃ x y : Nat, w.cell? ⟨A, i, none⟩ = some (.int .u64 (x : Int)) ∧ w.cell? ⟨D, i, none⟩ = some (.int .i64 (y : Int)) ∧ (putN x).length = y ∧ x < 18446744073709551616 ∧ getN ((putN x).take (y - 1)) = (0, 0, 51) := by
  obtain ⟨x, y, h1, h2, h3, h4, h5⟩ := at_facts ⟨i, hi⟩
  refine ⟨x, y, ?_, ?_, h3, h4, h5⟩
  · rw [cell_of_row _ _ _ _ _ _ hA]
    match i, hi, h1 with
    | 0, _, h1 => cases h1; rfl
    | 1, _, h1 => cases h1; rfl
    | 2, _, h1 => cases h1; rfl
    | 3, _, h1 => cases h1; rfl
    | 4, _, h1 => cases h1; rfl
    | 5, _, h1 => cases h1; rfl
    | 6, _, h1 => cases h1; rfl
    | 7, _, h1 => cases h1; rfl
    | 8, _, h1 => cases h1; rfl
  · rw [cell_of_row _ _ _ _ _ _ hD]
    match i, hi, h2 with
    | 0, _, h1 => cases h1; rfl
    | 1, _, h1 => cases h1; rfl
    | 2, _, h1 => cases h1; rfl
    | 3, _, h1 => cases h1; rfl
    | 4, _, h1 => cases h1; rfl
    | 5, _, h1 => cases h1; rfl
    | 6, _, h1 => cases h1; rfl
    | 7, _, h1 => cases h1; rfl
    | 8, _, h1 => cases h1; rfl
theorem get_at (x y : Nat) (h3 : (putN x).length = y) (h4 : x < 18446744073709551616) (h5 : getN ((putN x).take (y - 1)) = (0, 0, 51)) (w : World) (g c : Nat) (hs : Src w (some ⟨g, 0, none⟩) (putN x)) (hc : y ≤ c) (hm : c ≤ maxLen) :
    Calls Try.prog 10 #[.slice (some ⟨g, 0, none⟩) y c] w (fun e w' => e = .returned (.tuple #[.int .u64 (x : Int), .int .i64 (y : Int), .int .i64 0]) ∧ w = w') ∧
    Calls Try.prog 10 #[.slice (some ⟨g, 0, none⟩) (y - 1) c] w (fun e w' => e = .returned (.tuple #[.int .u64 0, .int .i64 0, .int .i64 51]) ∧ w = w') := by
  constructor
  · have h := get_any (some ⟨g, 0, none⟩) (putN x) c w (by omega) hm hs
    have hg := get_put x h4 []
    rw [List.append_nil] at hg
    rw [hg, h3] at h
    exact h
  · have h := get_any (some ⟨g, 0, none⟩) ((putN x).take (y - 1)) c w (by rw [List.length_take]; omega) hm (hs.take _)
    rw [h5, List.length_take, h3, Nat.min_eq_left (by omega)] at h
    exact h
theorem put_at (x y : Nat) (h3 : (putN x).length = y) (w : World) : Calls Try.prog 12 #[.int .u64 (x : Int)] w fun e w' => ∃ g c, e = .returned (.slice (some ⟨g, 0, none⟩) y c) ∧ Src w' (some ⟨g, 0, none⟩) (putN x) ∧ y ≤ c ∧ c ≤ maxLen ∧ Below w.heap.size w w' := by
  refine (Put_any (x : Int) (by omega) w).mono ?_
  rintro e w' ⟨v, rfl, h1, h2⟩
  rw [Int.toNat_natCast] at h1
  obtain ⟨g, c, rfl, hc, hm, _, _⟩ := byt_pos h1 (putN_ne _)
  rw [h3] at hc ⊢
  exact ⟨g, c, rfl, Src.of_byt h1, hc, hm, h2⟩
set_option maxRecDepth 100000 in
set_option maxHeartbeats 4000000 in
theorem known_any (w : World) : Calls Try.prog 7 #[] w fun e w' => e = .returned (.bool true) ∧ Below w.heap.size w w' := by
  have hA : Hid (∀ w1, Below (w.heap.size + 2) ((w.alloc (.cells #[.int .u64 0, .int .u64 252, .int .u64 253, .int .u64 254, .int .u64 65535, .int .u64 65536, .int .u64 4294967295, .int .u64 4294967296, .int .u64 18446744073709551615] 22)).alloc (.cells #[.int .i64 1, .int .i64 1, .int .i64 3, .int .i64 3, .int .i64 3, .int .i64 5, .int .i64 5, .int .i64 9, .int .i64 9] 3)) w1 → ∀ i, i < 9 → ∃ x y : Nat, w1.cell? ⟨w.heap.size, i, none⟩ = some (.int .u64 (x : Int)) ∧ w1.cell? ⟨w.heap.size + 1, i, none⟩ = some (.int .i64 (y : Int)) ∧ (putN x).length = y ∧ x < 18446744073709551616 ∧ getN ((putN x).take (y - 1)) = (0, 0, 51)) := fun w1 hb i hi => by
    refine at_cell w1 _ _ ?_ ?_ i hi
    · rw [hb.block _ (by omega), Go.Proofs.Ytcdeggocnaodiaa.heap_old2]
      exact heap_alloc_at w _
    · rw [hb.block _ (by omega)]
      have := heap_alloc_at (w.alloc (.cells #[.int .u64 0, .int .u64 252, .int .u64 253, .int .u64 254, .int .u64 65535, .int .u64 65536, .int .u64 4294967295, .int .u64 4294967296, .int .u64 18446744073709551615] 22)) (.cells #[.int .i64 1, .int .i64 1, .int .i64 3, .int .i64 3, .int .i64 3, .int .i64 5, .int .i64 5, .int .i64 9, .int .i64 9] 3)
      rw [World.size_alloc] at this
      exact this
  have B0 : Hid (Below w.heap.size w ((w.alloc (.cells #[.int .u64 0, .int .u64 252, .int .u64 253, .int .u64 254, .int .u64 65535, .int .u64 65536, .int .u64 4294967295, .int .u64 4294967296, .int .u64 18446744073709551615] 22)).alloc (.cells #[.int .i64 1, .int .i64 1, .int .i64 3, .int .i64 3, .int .i64 3, .int .i64 5, .int .i64 5, .int .i64 9, .int .i64 9] 3))) := ((Below.refl _ _).alloc (Nat.le_refl _) _).alloc (by simp) _
  go_enter Try.func7, Try.ntmps7
  go_wp2
  have HW : Hid (w.heap.size + 2 ≤ (((w.alloc (.cells #[.int .u64 0, .int .u64 252, .int .u64 253, .int .u64 254, .int .u64 65535, .int .u64 65536, .int .u64 4294967295, .int .u64 4294967296, .int .u64 18446744073709551615] 22)).alloc (.cells #[.int .i64 1, .int .i64 1, .int .i64 3, .int .i64 3, .int .i64 3, .int .i64 5, .int .i64 5, .int .i64 9, .int .i64 9] 3)) : World).heap.size) := by simp [Hid]
  generalize ((w.alloc (.cells #[.int .u64 0, .int .u64 252, .int .u64 253, .int .u64 254, .int .u64 65535, .int .u64 65536, .int .u64 4294967295, .int .u64 4294967296, .int .u64 18446744073709551615] 22)).alloc (.cells #[.int .i64 1, .int .i64 1, .int .i64 3, .int .i64 3, .int .i64 3, .int .i64 5, .int .i64 5, .int .i64 9, .int .i64 9] 3)) = W2 at *
  obtain ⟨gA, hgA⟩ : ∃ gA, w.heap.size = gA := ⟨_, rfl⟩
  have HGA := Lib.hid hgA
  rw [hgA] at hA HW ⊢
  clear hgA
  go_loopw [3] (fun iv wr => ∃ i : Nat, i ≤ 9 ∧ iv = .int .i64 i ∧ Hid (Below (gA + 2) W2 wr)) (fun iv _ => 9 - (intOf iv).toNat)
  case atStart => exact ⟨0, by omega, rfl, Below.refl _ _⟩
  case round =>
    obtain ⟨i, hi, rfl, hB⟩ := hrel
    by_cases hlt : i < 9
    · obtain ⟨x, y, c0, c1, h3, h4, h5⟩ := hA.out wr hB.out i hlt
      have HG : Hid (∀ (w : World) (g c : Nat), Src w (some ⟨g, 0, none⟩) (putN x) → y ≤ c → c ≤ maxLen → _ ∧ _) := fun w g c h1 h2 h6 => get_at x y h3 h4 h5 w g c h1 h2 h6
      have HP := Lib.hid (put_at x y h3)
      have hyp := (putN_pos x)
      rw [h3] at hyp
      have hii : (i : Int) < 9 := by omega
      have hwy : IntKind.i64.wrap ((y : Int) - 1) = ((y - 1 : Nat) : Int) := by simp only [IntKind.wrap, IntKind.bits, IntKind.signed]; simp; omega
      clear h3 h4 h5
      go_wp2_with (first
        | (go_at_call 12; (with_reducible refine Calls.mono (HP.out _) ?_); rintro e w1 ⟨g, c, rfl, hs1, hc1, hm1, hb1⟩; have HS1 := Lib.hid (HG.out w1 g c hs1 hc1 hm1); have HB1 := Lib.hid hb1; have c0' := cell_later hb1 c0; have c1' := cell_later hb1 c1; clear hs1 hb1)
        | (go_at_call 10; (with_reducible refine Calls.mono HS1.out.1 ?_); rintro e w2 ⟨rfl, rfl⟩)
        | (go_at_call 10; (with_reducible refine Calls.mono HS1.out.2 ?_); rintro e w2 ⟨rfl, rfl⟩))
      go_roundw
      case rel => exact ⟨i + 1, by omega, by go_num, hB.out.trans (HB1.out.mono (Nat.le_trans HW.out hB.out.size))⟩
      case measure => simp [intOf]; omega
    · obtain rfl : i = 9 := by omega
      have BZ : Hid (Below w.heap.size w wr) := B0.out.trans (hB.out.mono (by rw [HGA.out]; omega))
      clear hA B0 HGA HW hB
      go_wp2_with (first
        | (go_at_call 10; (with_reducible refine Calls.mono (known_l3 wr) ?_); rintro e k1 ⟨rfl, hb⟩; have S1 := Lib.hid hb; clear hb)
        | (go_at_call 10; (with_reducible refine Calls.mono (known_l5 k1) ?_); rintro e k2 ⟨rfl, hb⟩; have S2 := Lib.hid hb; clear hb)
        | (go_at_call 10; (with_reducible refine Calls.mono (known_l9 k2) ?_); rintro e k3 ⟨rfl, hb⟩; have S3 := Lib.hid hb; clear hb)
        | (go_at_call 19; (with_reducible refine Calls.mono (known_r4 k3) ?_); rintro e k4 ⟨v4, rfl, hb⟩; have S4 := Lib.hid hb; clear hb)
        | (go_at_call 19; (with_reducible refine Calls.mono (known_r3 k4) ?_); rintro e k5 ⟨v5, rfl, hb⟩; have S5 := Lib.hid hb; clear hb)
        | (go_at_call 19; (with_reducible refine Calls.mono (known_r10 k5) ?_); rintro e k6 ⟨v6, rfl, hb⟩; have S6 := Lib.hid hb; clear hb))
      have BK : Hid (Below w.heap.size w k6) := lt2 BZ.out (lt2 S1.out (lt2 S2.out (lt2 S3.out (lt2 S4.out (lt2 S5.out S6.out)))))
      clear S1 S2 S3 S4 S5 S6 BZ
      obtain ⟨i0, hi0, hz0, hz1, hz2⟩ := info_parts Try.info39
      go_loopw [27, 28] (fun lv iv wr => ∃ (k : Nat) (a0 : Option Addr) (c0 : Nat), k ≤ 64 ∧ iv = .int .i64 k ∧ lv = .slice a0 k c0 ∧ Hid (OwnRecs wr w.heap.size (.slice a0 k c0) (upTo k)) ∧ Hid (Below w.heap.size w wr)) (fun _ iv _ => 64 - (intOf iv).toNat)
      case atStart => exact ⟨0, none, 0, by omega, rfl, rfl, ownRecs_nil _ _, BK.out⟩
      case round =>
        obtain ⟨k, a0, c0, hk, rfl, rfl, hown, hB⟩ := hrel
        have hBs := hB.out.size
        by_cases hlt : k < 64
        · have hki : (k : Int) < 64 := by omega
          have hul : (upTo k).length = k := upTo_len k
          have hwk : IntKind.u64.wrap (k : Int) = (k : Int) := by simp only [IntKind.wrap, IntKind.bits, IntKind.signed]; simp; omega
          go_wp2_with (at_builtin; refine wpList_append_lies _ rfl _ _ _ rfl w.heap.size 39 i0 _ 2 32 Try.underlying30 hi0 hz0 hz1 hz2 rfl (by omega) _ _ _ rfl (hown.out.choose_spec.2.1.alloc _) ⟨wr.heap.size, 0, none⟩ 1 1 [.int .u64 (k : Int), .slice none 0 0] rfl rfl (World.news_of_block (cs := #[.int .u64 (k : Int), .slice none 0 0]) (t := 39) (fr := (0, 0)) (heap_alloc_at wr _)) (by simp [Value.oneCell']) (by omega) (by rw [upTo_len]; unfold maxLen; omega) (by rw [upTo_len]; omega) (by simp; omega) (wr.heap.size + 1) (by simp) ?_; intro g2 cap2 w4 hown2 hgrow2 hat2 hlt2; have HO2 := Lib.hid hown2; have HG3 := Lib.hid hgrow2; clear hown2 hgrow2 hat2 hlt2)
          go_roundw
          case rel =>
            refine ⟨k + 1, _, _, by omega, by go_num, rfl, ?_, ?_⟩
            · have h := OwnRecs.snoc hown.out (q := none) (nb := 0) (c := 0) (body := []) (t := k) (byt_nil _ _) rfl (by omega) HG3.out HO2.out
              rw [← upTo_succ, upTo_len] at h
              exact h
            · have hrow := fun (g : Nat) (hg : (Value.slice a0 k c0).ownBlock = some g) => (hown.out.choose_spec.2.1.lt g hg).1
              exact (hB.out.alloc hBs _).grown HG3.out (by simp; omega) hrow
          case measure => simp [intOf]; omega
        · obtain rfl : k = 64 := by omega
          have hr64 := Lib.hid hown.out.recs'
          obtain ⟨X, hX⟩ : ∃ X, encAll (upTo 64) = X := ⟨_, rfl⟩
          have hXl : X.length = 128 := by rw [← hX]; exact upTo_enc
          have KS := Lib.hid (known_stream X hX)
          have KR := Lib.hid (known_recs X hX)
          have KM := Lib.hid (known_err (X ++ [99, 0]) 130 (by simp [hXl]) 3 (by rw [← hX]; exact upTo_more))
          have KL := Lib.hid (known_err (X ++ [0, 0]) 130 (by simp [hXl]) 50 (by rw [← hX]; exact upTo_less))
          have HXL := Lib.hid hXl
          have hul : (upTo 64).length = 64 := upTo_len 64
          clear hX hXl
          obtain ⟨M8, hM8, HM8⟩ := make_32768
          obtain ⟨M9, hM9, HM9⟩ := make_32769
          obtain ⟨z1, hz1⟩ : ∃ z1 : List UInt8, (List.replicate 32768 (0 : UInt8)).take 32764 = z1 := ⟨_, rfl⟩
          obtain ⟨z2, hz2⟩ : ∃ z2 : List UInt8, (List.replicate 32768 (0 : UInt8)).take 32765 = z2 := ⟨_, rfl⟩
          have l1 : z1.length = 32764 := by rw [← hz1, List.length_take, List.length_replicate]; decide
          have l2 : z2.length = 32765 := by rw [← hz2, List.length_take, List.length_replicate]; decide
          have HS8 : Hid (∀ w, Src (M8 w) (some ⟨w.heap.size, 0, none⟩) z1 ∧ Src (M8 w) (some ⟨w.heap.size, 0, none⟩) z2 ∧ Below w.heap.size w (M8 w)) := fun w => ⟨by rw [← hz1]; exact (HM8.out w).1.take _, by rw [← hz2]; exact (HM8.out w).1.take _, (HM8.out w).2⟩
          have HB9 : Hid (∀ w, Below w.heap.size w (M9 w)) := fun w => (HM9.out w).2
          have K1 := Lib.hid (known_one 32764 32768 0 z1 _ l1 (by omega) (big_stream z1 l1).1 (big_stream z1 l1).2)
          have K2 := Lib.hid (known_one 32765 0 3 z2 _ l2 (by omega) (bigger_stream z2 l2) rfl)
          have Q4 : Hid (∀ (W : World) (q n : Nat), W.heap.size = n → Recs W (some ⟨q, 0, none⟩) qL → Calls Try.prog 21 #[.slice (some ⟨q, 0, none⟩) 3 3, .slice (some ⟨n, 0, none⟩) 1 1] (W.alloc (.cells #[.int .u64 4] 22)) fun e w' => e = .returned (.bool false) ∧ Below W.heap.size W w') := fun W q n hn hq => by subst hn; exact known_u 4 false (by decide +kernel) W q hq
          have Q6 := Lib.hid (known_u 6 true (by decide +kernel))
          have Q0 := Lib.hid (known_v true qL 3 rfl (by decide) (by decide +kernel))
          have Qn : Hid (∀ W : World, Calls Try.prog 21 #[.slice none 0 0, .slice none 0 0] W fun e w' => e = .returned (.bool false) ∧ Below W.heap.size W w') := fun W => known_v false [] 0 rfl (by decide) (by decide +kernel) W none 0 (Or.inl rfl)
          clear HM8 HM9 hz1 hz2 l1 l2
          go_wp2_with (first
            | (go_at_call 17; (with_reducible refine Calls.mono (KS.out a0 c0 wr hr64.out) ?_); rintro e w1 ⟨gx, cx, rfl, hx1, hx2, hx3, hb1⟩; have HX := Lib.hid hx1; have HX2 := Lib.hid hx2; have HX3 := Lib.hid hx3; have T1 := Lib.hid hb1; clear hx1 hx2 hx3 hb1)
            | (go_at_call 19; (with_reducible refine Calls.mono (KR.out gx cx w1 (Src.of_byt HX.out) HX2.out HX3.out) ?_); rintro e w2 ⟨ma, mc, rfl, hb2⟩; have HXb := Lib.hid (HX.out.below hb2); have T2 := Lib.hid (lt2 T1.out hb2); have hown3 := Lib.hid (hown.out.below T2.out); have z2 := T2.out.size; clear hb2)
            | (at_builtin; refine wpList_append_lies _ rfl _ _ _ rfl w.heap.size 39 i0 _ 2 32 Try.underlying30 hi0 hz0 hz1 hz2 rfl (by omega) _ _ _ rfl (hown3.out.choose_spec.2.1.alloc _) ⟨w2.heap.size, 0, none⟩ 1 1 [.int .u64 99, .slice none 0 0] rfl rfl (World.news_of_block (cs := #[.int .u64 99, .slice none 0 0]) (t := 39) (fr := (0, 0)) (heap_alloc_at w2 _)) (by simp [Value.oneCell']) (by omega) (by rw [upTo_len]; unfold maxLen; omega) (by rw [upTo_len]; omega) (by simp; omega) (w2.heap.size + 1) (by simp) ?_; intro g2 cap2 w3 hown2 hgrow2 hat2 hlt2; have HX5 := Lib.hid (byt_keep HXb.out hown3.out hgrow2); have Z2 := lt2 hB.out T2.out; have Z3 := Lib.hid ((Z2.alloc Z2.size (.cells #[.int .u64 99, .slice none 0 0] 39)).grown hgrow2 (by have := Z2.size; simp; omega) (fun g hg => (hown3.out.choose_spec.2.1.lt g hg).1)); clear hown2 hat2 hlt2 hgrow2 Z2)
            | (go_at_call 17; (with_reducible refine Calls.mono (known_over (some ⟨g2, 0, none⟩) cap2 w3) ?_); rintro e w4 ⟨v17, rfl, hb4⟩; have Z4 := Lib.hid (lt2 Z3.out hb4); have HX6 := Lib.hid (HX5.out.below hb4); clear hb4)
            | (at_builtin; refine wpList_app_keep rfl _ _ rfl w.heap.size (.slice (some ⟨gx, 0, none⟩) 128 cx) X rfl ((byt_base HX6.out hBs).below (below_new w4 _)) ⟨w4.heap.size, 0, none⟩ [99, 0] 2 rfl 2 rfl (lit_src w4 [99, 0] _ rfl) (by rw [HXL.out]; decide) (by rw [HXL.out]; decide) (by decide) (by have := Z4.out.size; simp; omega) ?_; intro v5 w5 hb5 hg5 hk5; obtain ⟨g5, c5, rfl, hs5, hc5, hm5⟩ := byt_at hb5 (show (X ++ [99, 0]).length = 130 by rw [List.length_append, HXL.out]; rfl) (by decide); have HS5 := Lib.hid hs5; have HC5 := Lib.hid hc5; have HM5 := Lib.hid hm5; have HK5 := Lib.hid hk5; have Z5 := Lib.hid ((Z4.out.alloc Z4.out.size (.cells #[.int .u8 99, .int .u8 0] 5)).grown hg5 (by have := Z4.out.size; simp; omega) (fun g hg => ((byt_base HX6.out hBs).lt g hg).1)); clear hb5 hg5 hk5 hs5 hc5 hm5)
            | (go_at_call 19; (with_reducible refine Calls.mono (KM.out g5 c5 w5 HS5.out HC5.out HM5.out) ?_); rintro e w6 ⟨v19, rfl, hb6⟩; have Z6 := Lib.hid (lt2 Z5.out hb6); have HX7 := Lib.hid (HK5.out.below hb6); clear hb6)
            | (at_builtin; refine wpList_app_keep rfl _ _ rfl w.heap.size (.slice (some ⟨gx, 0, none⟩) 128 cx) X rfl (HX7.out.below (below_new w6 _)) ⟨w6.heap.size, 0, none⟩ [0, 0] 2 rfl 2 rfl (lit_src w6 [0, 0] _ rfl) (by rw [HXL.out]; decide) (by rw [HXL.out]; decide) (by decide) (by have := Z6.out.size; simp; omega) ?_; intro v7 w7 hb7 hg7 hk7; obtain ⟨g7, c7, rfl, hs7, hc7, hm7⟩ := byt_at hb7 (show (X ++ [0, 0]).length = 130 by rw [List.length_append, HXL.out]; rfl) (by decide); have HS7 := Lib.hid hs7; have HC7 := Lib.hid hc7; have HM7 := Lib.hid hm7; have Z7 := Lib.hid ((Z6.out.alloc Z6.out.size (.cells #[.int .u8 0, .int .u8 0] 5)).grown hg7 (by have := Z6.out.size; simp; omega) (fun g hg => (HX7.out.lt g hg).1)); clear hb7 hg7 hk7 hs7 hc7 hm7)
            | (go_at_call 19; (with_reducible refine Calls.mono (KL.out g7 c7 w7 HS7.out HC7.out HM7.out) ?_); rintro e w8 ⟨v20, rfl, hb8⟩; have Z8 := Lib.hid (lt2 Z7.out hb8); have G1 := Lib.hid (HS8.out w8).1; have G2 := Lib.hid (HS8.out w8).2.1; have Z9 := Lib.hid (lt2 Z8.out (HS8.out w8).2.2); clear hb8)
            | (go_at_call 17; (with_reducible refine Calls.mono (K1.out (M8 w8) w8.heap.size 32768 G1.out (by decide) (by decide)) ?_); rintro e w10 ⟨va10, vc10, rfl, hb10⟩; have Z10 := Lib.hid (lt2 Z9.out hb10); have G3 := Lib.hid (G2.out.below hb10); clear hb10)
            | (go_at_call 17; (with_reducible refine Calls.mono (K2.out w10 w8.heap.size 32768 G3.out (by decide) (by decide)) ?_); rintro e w11 ⟨va11, vc11, rfl, hb11⟩; have Z11 := Lib.hid (lt2 Z10.out hb11); have Z12 := Lib.hid (lt2 Z11.out (HB9.out w11)); clear hb11)
            | (go_at_call 19; (with_reducible refine Calls.mono (known_long (some ⟨w11.heap.size, 0, none⟩) 32769 (M9 w11)) ?_); rintro e w13 ⟨v13, rfl, hb13⟩; have Z13 := Lib.hid (lt2 Z12.out hb13); have QR := Lib.hid (q_recs w13); have Z14 := Lib.hid (lt2 Z13.out (below_new w13 (.cells #[.int .u64 1, .slice none 0 0, .int .u64 4, .slice none 0 0, .int .u64 5, .slice none 0 0] 39))); clear hb13)
            | (go_at_call 21; (with_reducible refine Calls.mono (Q4.out (w13.alloc (.cells #[.int .u64 1, .slice none 0 0, .int .u64 4, .slice none 0 0, .int .u64 5, .slice none 0 0] 39)) w13.heap.size (w13.heap.size + 1) (by simp) QR.out) ?_); rintro e w15 ⟨rfl, hb15⟩; have QR2 := Lib.hid (QR.out.below hb15); have Z15 := Lib.hid (lt2 Z14.out hb15); clear hb15)
            | (go_at_call 21; (with_reducible refine Calls.mono (Q6.out w15 w13.heap.size QR2.out) ?_); rintro e w16 ⟨rfl, hb16⟩; have QR3 := Lib.hid (QR2.out.below hb16); have Z16 := Lib.hid (lt2 Z15.out hb16); clear hb16)
            | (go_at_call 21; (with_reducible refine Calls.mono (Q0.out w16 (some ⟨w13.heap.size, 0, none⟩) 3 QR3.out) ?_); rintro e w17 ⟨rfl, hb17⟩; have Z17 := Lib.hid (lt2 Z16.out hb17); clear hb17)
            | (go_at_call 21; (with_reducible refine Calls.mono (Qn.out w17) ?_); rintro e w18 ⟨rfl, hb18⟩; have Z18 := Lib.hid (lt2 Z17.out hb18); clear hb18)
            | (go_at_call 9; (with_reducible refine Calls.mono (works_any w18) ?_); rintro e w19 ⟨rfl, hb19⟩; have Z19 := Lib.hid (lt2 Z18.out hb19); clear hb19))
          go_ret
          exact ⟨rfl, Z19.out⟩
end Go.Proofs.Ytcdeggocnaodiaa
