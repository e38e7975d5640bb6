/- onion: failures wrapped, made, read, walked -/
import Derived.Test.YtbdimlppnhcicaaGreatDoorRou
import Derived.Test.YtbdimlppnhcicaaGreatDoorOnS
namespace Go.Proofs.YtbdimlppnhcicaaGreatDoor
set_option linter.unusedVariables false
open Go.RowKit
/-! onion: failures wrapped, made, read, walked -/
structure StM (w0 : World) (mb : Nat) (b : Bool) (W : World) : Prop where
  bel : Below w0.heap.size w0 W
  m : MAt mb b W
  hm : w0.heap.size ≤ mb
theorem StM.next {w0 W W' : World} {mb : Nat} {b : Bool} (h : StM w0 mb b W) (hb : Below W.heap.size W W') : StM w0 mb b W' := ⟨h.bel.trans (hb.mono h.bel.size), h.m.below hb, h.hm⟩
theorem StM.of {w0 W : World} {mb : Nat} {b : Bool} (h : StM w0 mb b W) (c : Bool) : StM w0 mb c (W.setCell ⟨mb, 0, none⟩ (.bool c)) := ⟨h.bel.setCell (p := ⟨mb, 0, none⟩) h.hm _, h.m.set c, h.hm⟩
theorem stm_of (w0 : World) (mb : Nat) (b : Bool) (t : ByteArray) (e : Int) (W : World) (h : StM w0 mb b W) : Calls Tryz.prog 67 #[.pointer (some ⟨mb, 0, none⟩), .string t, .int .i64 e] W fun y w' => y = .returned (.string t) ∧ StM w0 mb (b || decide (e ≠ 0)) w' :=
  (of_any mb b t e W h.m).mono fun y w' ⟨h1, h2⟩ => ⟨h1, by rw [h2]; exact h.of _⟩
theorem stm_new {w0 w : World} (hb : Below w0.heap.size w0 w) : StM w0 w.heap.size false (w.alloc (.cells #[.bool false] 123)) := ⟨hb.alloc hb.size _, heap_alloc_at w _, hb.size⟩
theorem stm_long (w0 : World) (mb : Nat) (b : Bool) (s : ByteArray) (W : World) (hm : s.size ≤ maxLen) (hs : 4096 < s.size) (h : StM w0 mb b W) : Calls Tryz.prog 69 #[.pointer (some ⟨mb, 0, none⟩), .string s] W fun y w' => y = .returned (.string ⟨#[]⟩) ∧ StM w0 mb true w' :=
  (mtext_bad mb b s W hm hs h.m).mono fun y w' ⟨h1, h2, h3⟩ => ⟨h1, ⟨h3.os.trans h.bel.os, h3.tape.trans h.bel.tape, h3.output.trans h.bel.output, Nat.le_trans h.bel.size h3.size, fun k hk => (h3.block k (Nat.lt_of_lt_of_le hk h.bel.size) (fun e => by have := h.hm; omega)).trans (h.bel.block k hk)⟩, h2, h.hm⟩
theorem oright (t : ByteArray) (w : World) (hm : t.size ≤ maxLen) (hL : LibOk w) : Calls Tryz.prog 66 #[.string t] w fun e w' => e = .returned (.bool (rt t)) ∧ Below w.heap.size w w' := right_any t w hm hL
theorem oback_any (s : ByteArray) (w : World) (hs : s.size ≤ maxLen) (hL : LibOk w) : Calls Tryz.prog 58 #[.string s] w fun e w' => e = .returned (pv (backP s)) ∧ Below w.heap.size w w' := by
  have HC : Hid (Calls Tryz.prog 123 #[.string s, .string ⟨#[116, 52, 58, 98, 97, 99, 107]⟩] w fun e w' => e = .returned (pv (backP s)) ∧ Below w.heap.size w w') := (child_any s tback w hs (by decide) hL).mono fun e w' ⟨h1, h2⟩ => ⟨by rw [h1, buildV_P]; rfl, h2⟩
  obtain ⟨p, hp⟩ : ∃ p, backP s = p := ⟨_, rfl⟩
  rw [hp] at HC ⊢
  obtain ⟨t, n⟩ := p
  dsimp only [pv] at HC ⊢
  clear hp hL
  go_enter Tryz.func58, Tryz.ntmps58
  go_wp2_with (go_at_call 123; (with_reducible refine Calls.mono HC.out ?_); rintro e w1 ⟨rfl, hb⟩; have B1 := Lib.hid hb; clear hb)
  go_ret2
  exact ⟨rfl, B1.out⟩
theorem obox (k f : ByteArray) (w : World) (hk : k.size ≤ maxLen) (hf : f.size ≤ maxLen) (hL : LibOk w) : Calls Tryz.prog 73 #[.string k, .string f] w fun e w' => e = .returned (.tuple #[.string (boxP k f).1, .int .i64 (boxP k f).2]) ∧ Below w.heap.size w w' :=
  (box_any k f w hk hf hL).mono fun e w' ⟨h1, h2⟩ => ⟨by rw [h1, buildV_P]; rfl, h2⟩
theorem wrapP_le (s f : ByteArray) : (wrapP s f).1.size ≤ 16384 := by
  unfold wrapP
  split
  · exact Nat.zero_le _
  · split
    · exact Nat.zero_le _
    · exact buildP_le _ _
set_option maxRecDepth 100000 in
set_option maxHeartbeats 4000000 in
theorem owrap_any (s f : ByteArray) (w : World) (hs : s.size ≤ maxLen) (hf : f.size ≤ maxLen) (hL : LibOk w) : Calls Tryz.prog 16 #[.string s, .string f] w fun e w' => e = .returned (pv (wrapP s f)) ∧ Below w.heap.size w w' := by
  have HR1 : Hid (∀ W, Below w.heap.size w W → Calls Tryz.prog 66 #[.string s] W fun e w' => e = .returned (.bool (rt s)) ∧ Below W.heap.size W w') := fun W h => oright s W hs (hL.below h)
  have HR2 : Hid (∀ W, Below w.heap.size w W → Calls Tryz.prog 66 #[.string f] W fun e w' => e = .returned (.bool (rt f)) ∧ Below W.heap.size W w') := fun W h => oright f W hf (hL.below h)
  have HBk : Hid (∀ W, Below w.heap.size w W → Calls Tryz.prog 58 #[.string s] W fun e w' => e = .returned (pv (backP s)) ∧ Below W.heap.size W w') := fun W h => oback_any s W hs (hL.below h)
  have HBx : Hid (∀ W, Below w.heap.size w W → Calls Tryz.prog 73 #[.string (backP s).1, .string f] W fun e w' => e = .returned (pv (boxP (backP s).1 f)) ∧ Below W.heap.size W w') := fun W h => obox _ f W (lt_max (buildP_le _ _)) hf (hL.below h)
  obtain ⟨r1, hr1⟩ : ∃ r, rt s = r := ⟨_, rfl⟩
  obtain ⟨r2, hr2⟩ : ∃ r, rt f = r := ⟨_, rfl⟩
  obtain ⟨R, hR⟩ : ∃ R, wrapP s f = R := ⟨_, rfl⟩
  have HW : Hid (R = if r1 = false ∨ r2 = false then (e0, 10) else if (backP s).2 ≠ 0 ∨ (boxP (backP s).1 f).2 ≠ 0 then (e0, 3) else ((boxP (backP s).1 f).1, 0)) := by
    show _ = _
    rw [← hR, ← hr1, ← hr2]; rfl
  obtain ⟨b, hb⟩ : ∃ b, boxP (backP s).1 f = b := ⟨_, rfl⟩
  rw [hb] at HBx HW
  obtain ⟨k, hk⟩ : ∃ k, backP s = k := ⟨_, rfl⟩
  rw [hr1] at HR1
  rw [hr2] at HR2
  rw [hk] at HBk HBx HW
  rw [hR]
  clear hr1 hr2 hR hb hk hL
  obtain ⟨k1, k2⟩ := k
  obtain ⟨b1, b2⟩ := b
  dsimp only [pv] at HBk HBx HW ⊢
  cases r1 with
  | false =>
    obtain rfl : R = (e0, 10) := by rw [HW.out, if_pos (.inl rfl)]
    clear HW HBk HBx HR2
    go_enter Tryz.func16, Tryz.ntmps16
    go_wp2_with (go_at_call 66; (with_reducible refine Calls.mono (HR1.out _ (Below.refl _ _)) ?_); rintro e w1 ⟨rfl, hb⟩; have B1 := Lib.hid hb; clear hb)
    go_ret2
    exact ⟨rfl, B1.out⟩
  | true =>
    cases r2 with
    | false =>
      obtain rfl : R = (e0, 10) := by rw [HW.out, if_pos (.inr rfl)]
      clear HW HBk HBx
      go_enter Tryz.func16, Tryz.ntmps16
      go_wp2_with (first | (go_at_call 66; (with_reducible refine Calls.mono (HR1.out _ (Below.refl _ _)) ?_); rintro e w1 ⟨rfl, hb⟩; have B1 := Lib.hid hb; clear hb) | (go_at_call 66; (with_reducible refine Calls.mono (HR2.out _ B1.out) ?_); rintro e w2 ⟨rfl, hb⟩; have B2 := Lib.hid (B1.out.trans (hb.mono B1.out.size)); clear hb))
      go_ret2
      exact ⟨rfl, B2.out⟩
    | true =>
      go_enter Tryz.func16, Tryz.ntmps16
      go_upto_region 4 with (first | (go_at_call 66; (with_reducible refine Calls.mono (HR1.out _ (Below.refl _ _)) ?_); rintro e w1 ⟨rfl, hb⟩; have B1 := Lib.hid hb; clear hb) | (go_at_call 66; (with_reducible refine Calls.mono (HR2.out _ B1.out) ?_); rintro e w2 ⟨rfl, hb⟩; have B2 := Lib.hid (B1.out.trans (hb.mono B1.out.size)); clear hb))
      have SM := Lib.hid (stm_new B2.out)
      generalize w2.alloc (.cells #[.bool false] 123) = w3 at SM ⊢
      generalize w2.heap.size = mb at SM ⊢
      go_upto_region 5 with (first
        | (go_at_call 58; (with_reducible refine Calls.mono (HBk.out _ SM.out.bel) ?_); rintro e w4 ⟨rfl, hb⟩; have S4 := Lib.hid (SM.out.next hb); clear hb)
        | (go_at_call 73; (with_reducible refine Calls.mono (HBx.out _ S5.out.bel) ?_); rintro e w6 ⟨rfl, hb⟩; have S6 := Lib.hid (S5.out.next hb); clear hb)
        | (go_at_call 67; (with_reducible refine Calls.mono (stm_of w mb _ b1 b2 _ S6.out) ?_); rintro e w7 ⟨rfl, hb⟩; have S7 := Lib.hid hb; clear hb)
        | (go_at_call 67; (with_reducible refine Calls.mono (stm_of w mb _ k1 k2 _ S4.out) ?_); rintro e w5 ⟨rfl, hb⟩; have S5 := Lib.hid hb; clear hb))
      obtain ⟨bad, hbad⟩ : ∃ x, (false || decide (k2 ≠ 0) || decide (b2 ≠ 0)) = x := ⟨_, rfl⟩
      rw [hbad] at S7
      have c0 := S7.out.m.cell
      have HB : Hid (R = if bad = true then (e0, 3) else (b1, 0)) := by
        show _ = _
        rw [HW.out, if_neg (by simp), ← hbad]
        by_cases h1 : k2 = 0 <;> by_cases h2 : b2 = 0 <;> simp [h1, h2]
      clear hbad HW
      cases bad with
      | true =>
        obtain rfl : R = (e0, 3) := HB.out
        go_wp2_with fail
        go_ret2
        exact ⟨rfl, S7.out.bel⟩
      | false =>
        obtain rfl : R = (b1, 0) := HB.out
        go_wp2_with fail
        go_ret2
        exact ⟨rfl, S7.out.bel⟩
set_option maxRecDepth 100000 in
set_option maxHeartbeats 4000000 in
theorem ofail_any (s why : ByteArray) (w : World) (hs : s.size ≤ maxLen) (hy : why.size ≤ maxLen) (hL : LibOk w) (hT : Tab w) : Calls Tryz.prog 14 #[.string s, .string why] w fun e w' => e = .returned (pv (failP s why)) ∧ Below w.heap.size w w' := by
  have HR1 : Hid (∀ W, Below w.heap.size w W → Calls Tryz.prog 66 #[.string s] W fun e w' => e = .returned (.bool (rt s)) ∧ Below W.heap.size W w') := fun W h => oright s W hs (hL.below h)
  have HT1 : Hid (∀ mb b W, Below w.heap.size w W → MAt mb b W → Calls Tryz.prog 69 #[.pointer (some ⟨mb, 0, none⟩), .string ⟨#[102, 97, 105, 108]⟩] W fun y w' => y = .returned (.string tfail) ∧ Below W.heap.size W w') := fun mb b W h1 h2 => (mtext_ok mb b ⟨#[102, 97, 105, 108]⟩ W (by decide) h2 (hT.below h1)).mono fun y w' ⟨a1, a2⟩ => ⟨by rw [a1, tfail_text], a2⟩
  obtain ⟨r1, hr1⟩ : ∃ r, rt s = r := ⟨_, rfl⟩
  obtain ⟨R, hR⟩ : ∃ R, failP s why = R := ⟨_, rfl⟩
  have HW : Hid (R = if r1 = false then (e0, 10) else if 4096 < why.size then (e0, 3) else wrapP s (tupS [tfail, textS why])) := by
    show _ = _
    rw [← hR, ← hr1]; rfl
  rw [hr1] at HR1
  rw [hR]
  clear hR hr1
  cases r1 with
  | false =>
    obtain rfl : R = (e0, 10) := HW.out
    clear HW HT1
    dsimp only [pv]
    go_enter Tryz.func14, Tryz.ntmps14
    go_wp2_with (go_at_call 66; (with_reducible refine Calls.mono (HR1.out _ (Below.refl _ _)) ?_); rintro e w1 ⟨rfl, hb⟩; have B1 := Lib.hid hb; clear hb)
    go_ret2
    exact ⟨rfl, B1.out⟩
  | true =>
    by_cases hw : 4096 < why.size
    · have HTP : Hid (∀ W, Below w.heap.size w W → Calls Tryz.prog 68 #[.slice (some ⟨W.heap.size, 0, none⟩) 2 2] (W.alloc (.cells #[.string tfail, .string ⟨#[]⟩] 23)) fun e w' => e = .returned (.tuple #[.string ⟨#[]⟩, .int .i64 10]) ∧ Below (W.alloc (.cells #[.string tfail, .string ⟨#[]⟩] 23)).heap.size (W.alloc (.cells #[.string tfail, .string ⟨#[]⟩] 23)) w') := fun W h =>
        (tuple_any (some ⟨W.heap.size, 0, none⟩) [tfail, ⟨#[]⟩] 2 2 _ rfl (by intro v hv; simp at hv; rcases hv with rfl | rfl <;> decide) (strs_two _ _ W) ((hL.below h).below (below_new' W _)) ((hT.below h).below (below_new' W _))).mono fun e w' ⟨a1, a2⟩ => ⟨by rw [a1]; kernel_rfl, a2⟩
      obtain rfl : R = (e0, 3) := by rw [HW.out, if_neg (by decide), if_pos hw]
      have HWY := Lib.hid hw
      clear HW hw
      dsimp only [pv]
      go_enter Tryz.func14, Tryz.ntmps14
      go_upto_region 4 with (go_at_call 66; (with_reducible refine Calls.mono (HR1.out _ (Below.refl _ _)) ?_); rintro e w1 ⟨rfl, hb⟩; have B1 := Lib.hid hb; clear hb)
      have SM := Lib.hid (stm_new B1.out)
      generalize w1.alloc (.cells #[.bool false] 123) = w3 at SM ⊢
      generalize w1.heap.size = mb at SM ⊢
      go_upto_region 5 with (first
        | (go_at_call 69; (with_reducible refine Calls.mono (HT1.out mb _ _ SM.out.bel SM.out.m) ?_); rintro e w4 ⟨rfl, hb⟩; have S4 := Lib.hid (SM.out.next hb); clear hb)
        | (go_at_call 69; (with_reducible refine Calls.mono (stm_long w mb _ why _ hy HWY.out S4.out) ?_); rintro e w5 ⟨rfl, hb⟩; have S5 := Lib.hid hb; clear hb)
        | (go_at_call 68; (with_reducible refine Calls.mono (HTP.out _ S5.out.bel) ?_); rintro e w6 ⟨rfl, hb⟩; have S6 := Lib.hid ((S5.out.next (below_new' _ _)).next hb); clear hb)
        | (go_at_call 67; (with_reducible refine Calls.mono (stm_of w mb _ ⟨#[]⟩ 10 _ S6.out) ?_); rintro e w7 ⟨rfl, hb⟩; have S7 := Lib.hid hb; clear hb))
      have c0 := S7.out.m.cell
      have ct : (true || decide ((10 : Int) ≠ 0)) = true := rfl
      rw [ct] at c0
      go_wp2_with fail
      go_ret2
      exact ⟨rfl, S7.out.bel⟩
    · obtain rfl : R = wrapP s (tupS [tfail, textS why]) := by rw [HW.out, if_neg (by decide), if_neg hw]
      obtain ⟨y1, y2, y3⟩ := say_yes (why := why) (by omega)
      have ys := y1.s
      have hT2 : (tupS [tfail, textS why]).size ≤ maxLen := by unfold maxLen; omega
      have hts := textS_le (s := why) (by omega)
      have HTP : Hid (∀ W, Below w.heap.size w W → Calls Tryz.prog 68 #[.slice (some ⟨W.heap.size, 0, none⟩) 2 2] (W.alloc (.cells #[.string tfail, .string (textS why)] 23)) fun e w' => e = .returned (.tuple #[.string (tupS [tfail, textS why]), .int .i64 0]) ∧ Below (W.alloc (.cells #[.string tfail, .string (textS why)] 23)).heap.size (W.alloc (.cells #[.string tfail, .string (textS why)] 23)) w') := fun W h =>
        (tuple_any (some ⟨W.heap.size, 0, none⟩) [tfail, textS why] 2 2 _ rfl (by intro v hv; simp at hv; rcases hv with rfl | rfl; decide; exact hts) (strs_two _ _ W) ((hL.below h).below (below_new' W _)) ((hT.below h).below (below_new' W _))).mono fun e w' ⟨a1, a2⟩ => ⟨by rw [a1, tupleV_P, y2]; rfl, a2⟩
      have HT2 : Hid (∀ mb b W, Below w.heap.size w W → MAt mb b W → Calls Tryz.prog 69 #[.pointer (some ⟨mb, 0, none⟩), .string why] W fun y w' => y = .returned (.string (textS why)) ∧ Below W.heap.size W w') := fun mb b W h1 h2 => mtext_ok mb b why W (by omega) h2 (hT.below h1)
      have HWr : Hid (∀ W, Below w.heap.size w W → Calls Tryz.prog 16 #[.string s, .string (tupS [tfail, textS why])] W fun e w' => e = .returned (pv (wrapP s (tupS [tfail, textS why]))) ∧ Below W.heap.size W w') := fun W h => owrap_any s _ W hs hT2 (hL.below h)
      clear HW hw y1 y2 y3 ys hT2 hts
      generalize tupS [tfail, textS why] = T at HTP HWr ⊢
      generalize textS why = tw at HTP HT2
      obtain ⟨R, hR⟩ : ∃ R, wrapP s T = R := ⟨_, rfl⟩
      rw [hR] at HWr ⊢
      clear hR
      obtain ⟨q1, q2⟩ := R
      dsimp only [pv] at HWr ⊢
      go_enter Tryz.func14, Tryz.ntmps14
      go_upto_region 4 with (go_at_call 66; (with_reducible refine Calls.mono (HR1.out _ (Below.refl _ _)) ?_); rintro e w1 ⟨rfl, hb⟩; have B1 := Lib.hid hb; clear hb)
      have SM := Lib.hid (stm_new B1.out)
      generalize w1.alloc (.cells #[.bool false] 123) = w3 at SM ⊢
      generalize w1.heap.size = mb at SM ⊢
      go_upto_region 5 with (first
        | (go_at_call 69; (with_reducible refine Calls.mono (HT1.out mb _ _ SM.out.bel SM.out.m) ?_); rintro e w4 ⟨rfl, hb⟩; have S4 := Lib.hid (SM.out.next hb); clear hb)
        | (go_at_call 69; (with_reducible refine Calls.mono (HT2.out mb _ _ S4.out.bel S4.out.m) ?_); rintro e w5 ⟨rfl, hb⟩; have S5 := Lib.hid (S4.out.next hb); clear hb)
        | (go_at_call 68; (with_reducible refine Calls.mono (HTP.out _ S5.out.bel) ?_); rintro e w6 ⟨rfl, hb⟩; have S6 := Lib.hid ((S5.out.next (below_new' _ _)).next hb); clear hb)
        | (go_at_call 67; (with_reducible refine Calls.mono (stm_of w mb _ T 0 _ S6.out) ?_); rintro e w7 ⟨rfl, hb⟩; have S7 := Lib.hid hb; clear hb))
      have c0 := S7.out.m.cell
      have ct : (false || decide ((0 : Int) ≠ 0)) = false := rfl
      rw [ct] at c0
      go_wp2_with (go_at_call 16; (with_reducible refine Calls.mono (HWr.out _ S7.out.bel) ?_); rintro e w8 ⟨rfl, hb⟩; have S8 := Lib.hid (S7.out.next hb); clear hb)
      go_ret2
      exact ⟨rfl, S8.out.bel⟩
theorem rd_step {S : List ByteArray} {i : Nat} {s g : ByteArray} (h : S[i]? = some s) : rdE (S.drop i) i g = match unboxO (backP s).1 g with
    | none => (0, e0, 220)
    | some t => match sayO t with
      | some u => (i, u, 0)
      | none => rdE (S.drop (i + 1)) (i + 1) t := by
  have hi := (List.getElem?_eq_some_iff.1 h).1
  rw [List.drop_eq_getElem_cons hi, (List.getElem?_eq_some_iff.1 h).2]
  rfl
theorem say_two {t l0 l1 : ByteArray} (h1 : isT (op4 t.data.toList) 2 = true) (h2 : (op4 t.data.toList).vs = [l0, l1]) : sayO t = if l0 = tfail ∧ isX (op4 l1.data.toList) = true then some (op4 l1.data.toList).u else none := by
  unfold sayO
  rw [h2]
  show (if isT (op4 t.data.toList) 2 = true ∧ l0 = tfail ∧ isX (op4 l1.data.toList) = true then some (op4 l1.data.toList).u else none) = _
  rw [h1]
  simp
set_option maxRecDepth 100000 in
set_option maxHeartbeats 8000000 in
theorem oread_any (o : Option Addr) (S : List ByteArray) (c : Nat) (f : ByteArray) (w : World) (hS : StrsAt o S w) (hSs : ∀ s ∈ S, s.size ≤ maxLen) (hSl : S.length ≤ 9223372036854775806) (hf : f.size ≤ maxLen) (hL : LibOk w) :
    Calls Tryz.prog 12 #[.slice o S.length c, .string f] w fun e w' => e = .returned (.tuple #[.int .i64 (rdE S 0 f).1, .string (rdE S 0 f).2.1, .int .i64 (rdE S 0 f).2.2]) ∧ Below w.heap.size w w' := by
  have HS := Lib.hid hS
  have HSS := Lib.hid hSs
  have HF := Lib.hid hf
  have HL := Lib.hid hL
  obtain ⟨R, hR⟩ : ∃ R, rdE S 0 f = R := ⟨_, rfl⟩
  have HR := Lib.hid hR
  rw [hR]
  clear hS hSs hf hL hR
  obtain ⟨R1, R2, R3⟩ := R
  dsimp only
  go_enter Tryz.func12, Tryz.ntmps12
  go_wp2_with fail
  go_loopw [1, 19] (fun fv iv wr => ∃ (i : Nat) (g : ByteArray), i ≤ S.length ∧ iv = .int .i64 i ∧ fv = .string g ∧ Hid (rdE (S.drop i) i g = (R1, R2, R3)) ∧ Hid (g.size ≤ maxLen) ∧ Hid (Below w.heap.size w wr)) (fun _ iv _ => S.length - (intOf iv).toNat)
  case atStart => exact ⟨0, f, Nat.zero_le _, rfl, rfl, HR.out, HF.out, Below.refl _ _⟩
  case round =>
    obtain ⟨i, g, hi, rfl, rfl, hrd, hg, hBl⟩ := hrel
    by_cases hlt : i < S.length
    · obtain ⟨s, hs⟩ : ∃ s, S[i]? = some s := ⟨_, List.getElem?_eq_getElem hlt⟩
      have hne : S ≠ [] := by intro h; rw [h] at hlt; simp at hlt
      obtain ⟨sb, sf, rfl, hc⟩ := (HS.out.below hBl.out).resolve_left hne
      have c0 := hc i s hs
      have hsz := HSS.out s (List.mem_of_getElem? hs)
      have hii : (i : Int) < (S.length : Int) := by omega
      have HB := Lib.hid (oback_any s wr hsz (HL.out.below hBl.out))
      have HUB : Hid (∀ W, Below w.heap.size w W → Calls Tryz.prog 59 #[.string (backP s).1, .string g] W fun e w' => e = .returned (.tuple #[.string ((unboxO (backP s).1 g).getD e0), .bool (unboxO (backP s).1 g).isSome]) ∧ Below W.heap.size W w') := fun W h => (unbox_any _ g W hg.out (HL.out.below h)).mono fun e w' ⟨a1, a2⟩ => ⟨by rw [a1, unboxV_O], a2⟩
      have hst : Hid (_ = _) := rd_step (g := g) hs
      have hrd2 : Hid (_ = (R1, R2, R3)) := hst.out.symm.trans hrd.out
      have htm := unboxO_getD (backP s).1 g
      obtain ⟨U, hU⟩ : ∃ U, unboxO (backP s).1 g = U := ⟨_, rfl⟩
      rw [hU] at HUB hrd2 htm
      obtain ⟨k, hk⟩ : ∃ k, backP s = k := ⟨_, rfl⟩
      rw [hk] at HB HUB
      obtain ⟨k1, k2⟩ := k
      dsimp only [pv] at HB HUB
      clear hU hk hst hrd hc hs hsz hne
      cases U with
      | none =>
        have hr := hrd2.out
        simp only [Prod.mk.injEq] at hr
        obtain ⟨rfl, rfl, rfl⟩ := hr
        dsimp only [Option.getD_none, Option.isSome_none] at HUB
        go_wp2_with (first
          | (go_at_call 58; (with_reducible refine Calls.mono HB.out ?_); rintro e w1 ⟨rfl, hb⟩; have B1 := Lib.hid (hBl.out.trans (hb.mono hBl.out.size)); clear hb)
          | (go_at_call 59; (with_reducible refine Calls.mono (HUB.out _ B1.out) ?_); rintro e w2 ⟨rfl, hb⟩; have B2 := Lib.hid (B1.out.trans (hb.mono B1.out.size)); clear hb))
        go_ret3
        exact ⟨rfl, B2.out⟩
      | some t =>
        dsimp only [Option.getD_some, Option.isSome_some] at HUB htm
        have htm' : t.size ≤ maxLen := lt_max htm
        have HKT : Hid (∀ W, Below w.heap.size w W → Calls Tryz.prog 60 #[.string t, .int .i64 2] W (KidsPost (op4 t.data.toList) 2 W)) := fun W h => otuple_any t 2 W _ (by omega) (popen_any t W htm' (HL.out.below h))
        have HRD : Hid ((match sayO t with | some u => (i, u, 0) | none => rdE (S.drop (i + 1)) (i + 1) t) = (R1, R2, R3)) := hrd2
        have hty : Hid (t.size ≤ maxLen) := htm'
        clear hrd2 htm htm'
        cases hT : isT (op4 t.data.toList) 2 with
        | false =>
          have hno : sayO t = none := by unfold sayO; rw [hT, if_neg (by simp)]
          have hr : Hid (rdE (S.drop (i + 1)) (i + 1) t = (R1, R2, R3)) := by have := HRD.out; rw [hno] at this; exact this
          have HKT2 : Hid (∀ W, Below w.heap.size w W → Calls Tryz.prog 60 #[.string t, .int .i64 2] W fun e w' => Below W.heap.size W w' ∧ ∃ o m k, e = .returned (.tuple #[.slice o m k, .bool false])) := fun W h => (HKT.out W h).mono fun e w' ⟨a1, o, k, a2, _⟩ => ⟨a1, o, (op4 t.data.toList).vs.length, k, by rw [a2, hT]⟩
          clear hT hno HRD HKT
          go_wp2_with (first
            | (go_at_call 58; (with_reducible refine Calls.mono HB.out ?_); rintro e w1 ⟨rfl, hb⟩; have B1 := Lib.hid (hBl.out.trans (hb.mono hBl.out.size)); clear hb)
            | (go_at_call 59; (with_reducible refine Calls.mono (HUB.out _ B1.out) ?_); rintro e w2 ⟨rfl, hb⟩; have B2 := Lib.hid (B1.out.trans (hb.mono B1.out.size)); clear hb)
            | (go_at_call 60; (with_reducible refine Calls.mono (HKT2.out _ B2.out) ?_); rintro e w3 ⟨hb, o3, m3, k3, rfl⟩; have B3 := Lib.hid (B2.out.trans (hb.mono B2.out.size)); clear hb))
          go_roundw
          case rel => exact ⟨i + 1, t, by omega, by go_num, rfl, hr.out, hty.out, B3.out⟩
          case measure => simp [intOf]; omega
        | true =>
          obtain ⟨l0, l1, hv⟩ := two_of (isT_vs hT)
          have hsay := say_two hT hv
          have hl1 := op4_kid t.data.toList l1 (by rw [hv]; simp)
          have HKT2 : Hid (∀ W, Below w.heap.size w W → Calls Tryz.prog 60 #[.string t, .int .i64 2] W fun e w' => Below W.heap.size W w' ∧ ∃ g3 f3 k, e = .returned (.tuple #[.slice (some ⟨g3, f3, none⟩) 2 k, .bool true]) ∧ w'.cell? ⟨g3, f3, none⟩ = some (.string l0) ∧ w'.cell? ⟨g3, f3 + 1, none⟩ = some (.string l1)) := fun W h => (HKT.out W h).mono fun e w' ⟨a1, o, k, a2, a3⟩ => by
            rw [hv] at a2 a3
            obtain ⟨g3, f3, rfl, a4⟩ := a3.resolve_left (by simp)
            exact ⟨a1, g3, f3, k, by rw [a2, hT]; rfl, by simpa using a4 0 l0 rfl, a4 1 l1 rfl⟩
          have HX : Hid (∀ W, Below w.heap.size w W → Calls Tryz.prog 61 #[.string l1] W fun e w' => e = .returned (.tuple #[.string (op4 l1.data.toList).u, .bool (isX (op4 l1.data.toList))]) ∧ Below W.heap.size W w') := fun W h => otext_any l1 W _ (popen_any l1 W (lt_max hl1) (HL.out.below h))
          obtain ⟨q, hq⟩ : ∃ q, op4 l1.data.toList = q := ⟨_, rfl⟩
          rw [hq] at HX hsay
          clear hq hT hv HKT
          by_cases hl : l0 = tfail
          · subst hl
            have hcmp : (tfail.toList == [116, 52, 58, 102, 97, 105, 108]) = true := by rw [ByteArray.toList_eq]; rfl
            cases hx : isX q with
            | true =>
              rw [hx] at HX
              have hr := HRD.out
              rw [hsay, if_pos ⟨rfl, hx⟩] at hr
              simp only [Prod.mk.injEq] at hr
              obtain ⟨rfl, rfl, rfl⟩ := hr
              clear HRD hsay hx
              go_wp2_with (first
                | (go_at_call 58; (with_reducible refine Calls.mono HB.out ?_); rintro e w1 ⟨rfl, hb⟩; have B1 := Lib.hid (hBl.out.trans (hb.mono hBl.out.size)); clear hb)
                | (go_at_call 59; (with_reducible refine Calls.mono (HUB.out _ B1.out) ?_); rintro e w2 ⟨rfl, hb⟩; have B2 := Lib.hid (B1.out.trans (hb.mono B1.out.size)); clear hb)
                | (go_at_call 60; (with_reducible refine Calls.mono (HKT2.out _ B2.out) ?_); rintro e w3 ⟨hb, g3, f3, k3, rfl, x0, x1⟩; have B3 := Lib.hid (B2.out.trans (hb.mono B2.out.size)); clear hb)
                | (go_at_call 61; (with_reducible refine Calls.mono (HX.out _ B3.out) ?_); rintro e w4 ⟨rfl, hb⟩; have B4 := Lib.hid (B3.out.trans (hb.mono B3.out.size)); clear hb))
              go_ret3
              exact ⟨rfl, B4.out⟩
            | false =>
              rw [hx] at HX
              have hr : Hid (rdE (S.drop (i + 1)) (i + 1) t = (R1, R2, R3)) := by have := HRD.out; rw [hsay, if_neg (by rw [hx]; simp)] at this; exact this
              clear HRD hsay hx
              go_wp2_with (first
                | (go_at_call 58; (with_reducible refine Calls.mono HB.out ?_); rintro e w1 ⟨rfl, hb⟩; have B1 := Lib.hid (hBl.out.trans (hb.mono hBl.out.size)); clear hb)
                | (go_at_call 59; (with_reducible refine Calls.mono (HUB.out _ B1.out) ?_); rintro e w2 ⟨rfl, hb⟩; have B2 := Lib.hid (B1.out.trans (hb.mono B1.out.size)); clear hb)
                | (go_at_call 60; (with_reducible refine Calls.mono (HKT2.out _ B2.out) ?_); rintro e w3 ⟨hb, g3, f3, k3, rfl, x0, x1⟩; have B3 := Lib.hid (B2.out.trans (hb.mono B2.out.size)); clear hb)
                | (go_at_call 61; (with_reducible refine Calls.mono (HX.out _ B3.out) ?_); rintro e w4 ⟨rfl, hb⟩; have B4 := Lib.hid (B3.out.trans (hb.mono B3.out.size)); clear hb))
              go_roundw
              case rel => exact ⟨i + 1, t, by omega, by go_num, rfl, hr.out, hty.out, B4.out⟩
              case measure => simp [intOf]; omega
          · have hcmp : (l0.toList == [116, 52, 58, 102, 97, 105, 108]) = false := by
              have := toList_ne hl
              rwa [show tfail.toList = [116, 52, 58, 102, 97, 105, 108] from by rw [ByteArray.toList_eq]; rfl] at this
            have hr : Hid (rdE (S.drop (i + 1)) (i + 1) t = (R1, R2, R3)) := by have := HRD.out; rw [hsay, if_neg (fun h => hl h.1)] at this; exact this
            clear HRD hsay hl
            go_wp2_with (first
                | (go_at_call 58; (with_reducible refine Calls.mono HB.out ?_); rintro e w1 ⟨rfl, hb⟩; have B1 := Lib.hid (hBl.out.trans (hb.mono hBl.out.size)); clear hb)
                | (go_at_call 59; (with_reducible refine Calls.mono (HUB.out _ B1.out) ?_); rintro e w2 ⟨rfl, hb⟩; have B2 := Lib.hid (B1.out.trans (hb.mono B1.out.size)); clear hb)
                | (go_at_call 60; (with_reducible refine Calls.mono (HKT2.out _ B2.out) ?_); rintro e w3 ⟨hb, g3, f3, k3, rfl, x0, x1⟩; have B3 := Lib.hid (B2.out.trans (hb.mono B2.out.size)); clear hb)
                | (go_at_call 61; (with_reducible refine Calls.mono (HX.out _ B3.out) ?_); rintro e w4 ⟨rfl, hb⟩; have B4 := Lib.hid (B3.out.trans (hb.mono B3.out.size)); clear hb))
            go_roundw
            case rel => exact ⟨i + 1, t, by omega, by go_num, rfl, hr.out, hty.out, B3.out⟩
            case measure => simp [intOf]; omega
    · obtain rfl : i = S.length := by omega
      have hr := hrd.out
      rw [List.drop_length] at hr
      simp only [rdE, Prod.mk.injEq] at hr
      obtain ⟨rfl, rfl, rfl⟩ := hr
      go_wp2_with fail
      go_ret3
      exact ⟨rfl, hBl.out⟩
end Go.Proofs.YtbdimlppnhcicaaGreatDoor
