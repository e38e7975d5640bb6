/- onion: OnionFails, walked -/
import Derived.Test.YtbdimlppnhcicaaGreatDoorOnX
import Derived.Test.YtbdimlppnhcicaaGreatDoorOnS
import Derived.Test.YtbdimlppnhcicaaGreatDoorBldH
namespace Go.Proofs.YtbdimlppnhcicaaGreatDoor
set_option linter.unusedVariables false
open Go.RowKit
/-! onion: OnionFails, walked -/
theorem dright (t : ByteArray) (w : World) (hm : t.size ≤ maxLen) : Calls Tryz.prog 70 #[.string t] w fun e w' => e = .returned (.bool (rt t)) ∧ Below w.heap.size w w' := rright_any t w hm
theorem dback_any (s : ByteArray) (w : World) (hs : s.size ≤ maxLen) : Calls Tryz.prog 62 #[.string s] w fun e w' => e = .returned (pv (backP s)) ∧ Below w.heap.size w w' := by
  have HC : Hid (Calls Tryz.prog 74 #[.int .u8 68, .string s, .string ⟨#[116, 52, 58, 98, 97, 99, 107]⟩] w fun e w' => e = .returned (pv (backP s)) ∧ Below w.heap.size w w') := (rtwo_any 68 s tback w hs (by decide)).mono fun e w' ⟨h1, h2⟩ => ⟨by rw [h1, buildV_P]; rfl, h2⟩
  obtain ⟨p, hp⟩ : ∃ p, backP s = p := ⟨_, rfl⟩
  rw [hp] at HC ⊢
  obtain ⟨t, n⟩ := p
  dsimp only [pv] at HC ⊢
  clear hp
  go_enter Tryz.func62, Tryz.ntmps62
  go_wp2_with (go_at_call 74; (with_reducible refine Calls.mono HC.out ?_); rintro e w1 ⟨rfl, hb⟩; have B1 := Lib.hid hb; clear hb)
  go_ret2
  exact ⟨rfl, B1.out⟩
theorem dbox (k f : ByteArray) (w : World) (hk : k.size ≤ maxLen) (hf : f.size ≤ maxLen) : Calls Tryz.prog 74 #[.int .u8 66, .string k, .string f] w fun e w' => e = .returned (.tuple #[.string (boxP k f).1, .int .i64 (boxP k f).2]) ∧ Below w.heap.size w w' :=
  (rtwo_any 66 k f w hk hf).mono fun e w' ⟨h1, h2⟩ => ⟨by rw [h1, buildV_P]; rfl, h2⟩
/-- what is built of right terms is it, or is too much -/
theorem build_code {op : UInt8} {a b : ByteArray} (ha : rt a = true) (hb : rt b = true) : (buildP ⟨#[op]⟩ [a, b]).2 = 0 ∧ rt (buildP ⟨#[op]⟩ [a, b]).1 = true ∨ buildP ⟨#[op]⟩ [a, b] = (e0, 3) := by
  unfold buildP
  rw [if_pos (by simp [ha, hb])]
  unfold wholeP
  by_cases h : rt ⟨(buildL ⟨#[op]⟩ [a, b]).toArray⟩ = true
  · rw [if_pos h]; exact .inl ⟨rfl, h⟩
  · rw [if_neg h]; exact .inr rfl
theorem tback_right : rt tback = true := by kernel_rfl
set_option maxRecDepth 100000 in
set_option maxHeartbeats 4000000 in
theorem dwrap_any (s f : ByteArray) (w : World) (hs : s.size ≤ maxLen) (hf : f.size ≤ maxLen) : Calls Tryz.prog 17 #[.string s, .string f] w fun e w' => e = .returned (pv (wrapP s f)) ∧ Below w.heap.size w w' := by
  have HR1 : Hid (∀ W, Calls Tryz.prog 70 #[.string s] W fun e w' => e = .returned (.bool (rt s)) ∧ Below W.heap.size W w') := fun W => dright s W hs
  have HR2 : Hid (∀ W, Calls Tryz.prog 70 #[.string f] W fun e w' => e = .returned (.bool (rt f)) ∧ Below W.heap.size W w') := fun W => dright f W hf
  have HBk : Hid (∀ W, Calls Tryz.prog 62 #[.string s] W fun e w' => e = .returned (pv (backP s)) ∧ Below W.heap.size W w') := fun W => dback_any s W hs
  have HBx : Hid (∀ W, Calls Tryz.prog 74 #[.int .u8 66, .string (backP s).1, .string f] W fun e w' => e = .returned (pv (boxP (backP s).1 f)) ∧ Below W.heap.size W w') := fun W => dbox _ f W (lt_max (buildP_le _ _)) hf
  have hc1 : rt s = true → (backP s).2 = 0 ∧ rt (backP s).1 = true ∨ backP s = (e0, 3) := fun h => build_code h tback_right
  have hc2 : rt f = true → rt (backP s).1 = true → (boxP (backP s).1 f).2 = 0 ∧ rt (boxP (backP s).1 f).1 = true ∨ boxP (backP s).1 f = (e0, 3) := fun h h2 => build_code h2 h
  obtain ⟨r1, hr1⟩ : ∃ r, rt s = r := ⟨_, rfl⟩
  obtain ⟨r2, hr2⟩ : ∃ r, rt f = r := ⟨_, rfl⟩
  obtain ⟨R, hR⟩ : ∃ R, wrapP s f = R := ⟨_, rfl⟩
  have HW : Hid (R = if r1 = false ∨ r2 = false then (e0, 10) else if (backP s).2 ≠ 0 ∨ (boxP (backP s).1 f).2 ≠ 0 then (e0, 3) else ((boxP (backP s).1 f).1, 0)) := by
    show _ = _
    rw [← hR, ← hr1, ← hr2]; rfl
  rw [hr1] at HR1 hc1
  rw [hr2] at HR2 hc2
  rw [hR]
  clear hr1 hr2 hR
  obtain ⟨b, hb⟩ : ∃ b, boxP (backP s).1 f = b := ⟨_, rfl⟩
  rw [hb] at HBx HW hc2
  obtain ⟨k, hk⟩ : ∃ k, backP s = k := ⟨_, rfl⟩
  rw [hk] at HBk HBx HW hc1 hc2
  clear hb hk
  obtain ⟨k1, k2⟩ := k
  obtain ⟨b1, b2⟩ := b
  dsimp only [pv] at HBk HBx HW hc1 hc2 ⊢
  cases r1 with
  | false =>
    obtain rfl : R = (e0, 10) := by rw [HW.out, if_pos (.inl rfl)]
    clear HW HBk HBx HR2 hc1 hc2
    go_enter Tryz.func17, Tryz.ntmps17
    go_wp2_with (go_at_call 70; (with_reducible refine Calls.mono (HR1.out _) ?_); rintro e w1 ⟨rfl, hb⟩; have B1 := Lib.hid hb; clear hb)
    go_ret2
    exact ⟨rfl, B1.out⟩
  | true =>
    cases r2 with
    | false =>
      obtain rfl : R = (e0, 10) := by rw [HW.out, if_pos (.inr rfl)]
      clear HW HBk HBx hc1 hc2
      go_enter Tryz.func17, Tryz.ntmps17
      go_wp2_with (first | (go_at_call 70; (with_reducible refine Calls.mono (HR1.out _) ?_); rintro e w1 ⟨rfl, hb⟩; have B1 := Lib.hid hb; clear hb) | (go_at_call 70; (with_reducible refine Calls.mono (HR2.out _) ?_); rintro e w2 ⟨rfl, hb⟩; have B2 := Lib.hid (B1.out.trans (hb.mono B1.out.size)); clear hb))
      go_ret2
      exact ⟨rfl, B2.out⟩
    | true =>
      have hk := hc1 rfl
      rcases hk with ⟨hk0, hkr⟩ | hk
      · subst hk0
        have hbx := hc2 rfl hkr
        have hRb : R = (b1, b2) := by
          rw [HW.out, if_neg (by simp)]
          rcases hbx with ⟨h, _⟩ | h
          · rw [h]; simp
          · cases h; simp
        clear HW hc1 hc2 hbx
        subst hRb
        go_enter Tryz.func17, Tryz.ntmps17
        go_wp2_with (first
          | (go_at_call 70; (with_reducible refine Calls.mono (HR1.out _) ?_); rintro e w1 ⟨rfl, hb⟩; have B1 := Lib.hid hb; clear hb)
          | (go_at_call 70; (with_reducible refine Calls.mono (HR2.out _) ?_); rintro e w2 ⟨rfl, hb⟩; have B2 := Lib.hid (B1.out.trans (hb.mono B1.out.size)); clear hb)
          | (go_at_call 62; (with_reducible refine Calls.mono (HBk.out _) ?_); rintro e w3 ⟨rfl, hb⟩; have B3 := Lib.hid (B2.out.trans (hb.mono B2.out.size)); clear hb)
          | (go_at_call 74; (with_reducible refine Calls.mono (HBx.out _) ?_); rintro e w4 ⟨rfl, hb⟩; have B4 := Lib.hid (B3.out.trans (hb.mono B3.out.size)); clear hb))
        go_ret2
        exact ⟨rfl, B4.out⟩
      · cases hk
        have hRb : R = (e0, 3) := by rw [HW.out, if_neg (by simp), if_pos (.inl (by decide))]
        clear HW hc1 hc2
        subst hRb
        go_enter Tryz.func17, Tryz.ntmps17
        go_wp2_with (first
          | (go_at_call 70; (with_reducible refine Calls.mono (HR1.out _) ?_); rintro e w1 ⟨rfl, hb⟩; have B1 := Lib.hid hb; clear hb)
          | (go_at_call 70; (with_reducible refine Calls.mono (HR2.out _) ?_); rintro e w2 ⟨rfl, hb⟩; have B2 := Lib.hid (B1.out.trans (hb.mono B1.out.size)); clear hb)
          | (go_at_call 62; (with_reducible refine Calls.mono (HBk.out _) ?_); rintro e w3 ⟨rfl, hb⟩; have B3 := Lib.hid (B2.out.trans (hb.mono B2.out.size)); clear hb))
        go_ret2
        exact ⟨rfl, B3.out⟩
set_option maxRecDepth 100000 in
set_option maxHeartbeats 4000000 in
theorem dfail_any (s why : ByteArray) (w : World) (hs : s.size ≤ maxLen) (hy : why.size ≤ maxLen) : Calls Tryz.prog 15 #[.string s, .string why] w fun e w' => e = .returned (pv (failP s why)) ∧ Below w.heap.size w w' := by
  have HR1 : Hid (∀ W, Calls Tryz.prog 70 #[.string s] W fun e w' => e = .returned (.bool (rt s)) ∧ Below W.heap.size W w') := fun W => dright s W hs
  obtain ⟨r1, hr1⟩ : ∃ r, rt s = r := ⟨_, rfl⟩
  obtain ⟨R, hR⟩ : ∃ R, failP s why = R := ⟨_, rfl⟩
  have HW : Hid (R = if r1 = false then (e0, 10) else if 4096 < why.size then (e0, 3) else wrapP s (tupS [tfail, textS why])) := by
    show _ = _
    rw [← hR, ← hr1]; rfl
  rw [hr1] at HR1
  rw [hR]
  clear hR hr1
  cases r1 with
  | false =>
    obtain rfl : R = (e0, 10) := HW.out
    clear HW
    dsimp only [pv]
    go_enter Tryz.func15, Tryz.ntmps15
    go_wp2_with (go_at_call 70; (with_reducible refine Calls.mono (HR1.out _) ?_); rintro e w1 ⟨rfl, hb⟩; have B1 := Lib.hid hb; clear hb)
    go_ret2
    exact ⟨rfl, B1.out⟩
  | true =>
    by_cases hw : 4096 < why.size
    · obtain rfl : R = (e0, 3) := by rw [HW.out, if_neg (by decide), if_pos hw]
      have HTX : Hid (∀ W, Calls Tryz.prog 71 #[.string why] W fun e w' => e = .returned (.tuple #[.string ⟨#[]⟩, .int .i64 3]) ∧ Below W.heap.size W w') := fun W => rbtext_long why W hy hw
      clear HW hw
      dsimp only [pv]
      go_enter Tryz.func15, Tryz.ntmps15
      go_wp2_with (first
        | (go_at_call 70; (with_reducible refine Calls.mono (HR1.out _) ?_); rintro e w1 ⟨rfl, hb⟩; have B1 := Lib.hid hb; clear hb)
        | (go_at_call 71; (with_reducible refine Calls.mono (HTX.out _) ?_); rintro e w2 ⟨rfl, hb⟩; have B2 := Lib.hid (B1.out.trans (hb.mono B1.out.size)); clear hb))
      go_ret2
      exact ⟨rfl, B2.out⟩
    · obtain rfl : R = wrapP s (tupS [tfail, textS why]) := by rw [HW.out, if_neg (by decide), if_neg hw]
      obtain ⟨y1, y2, y3⟩ := say_yes (why := why) (by omega)
      have ys := y1.s
      have hT2 : (tupS [tfail, textS why]).size ≤ maxLen := by unfold maxLen; omega
      have hts := textS_le (s := why) (by omega)
      have HTX : Hid (∀ W, Calls Tryz.prog 71 #[.string why] W fun e w' => e = .returned (.tuple #[.string (textS why), .int .i64 0]) ∧ Below W.heap.size W w') := fun W => rbtext_short why W (by omega)
      have HTP : Hid (∀ W : World, Calls Tryz.prog 72 #[.slice (some ⟨W.heap.size, 0, none⟩) 2 2] (W.alloc (.cells #[.string ⟨#[116, 52, 58, 102, 97, 105, 108]⟩, .string (textS why)] 23)) fun e w' => e = .returned (.tuple #[.string (tupS [tfail, textS why]), .int .i64 0]) ∧ Below (W.alloc (.cells #[.string ⟨#[116, 52, 58, 102, 97, 105, 108]⟩, .string (textS why)] 23)).heap.size (W.alloc (.cells #[.string ⟨#[116, 52, 58, 102, 97, 105, 108]⟩, .string (textS why)] 23)) w') := fun W =>
        (rtuple_any (some ⟨W.heap.size, 0, none⟩) [tfail, textS why] 2 2 _ rfl (by intro v hv; simp at hv; rcases hv with rfl | rfl; decide; exact hts) (strs_two _ _ W)).mono fun e w' ⟨a1, a2⟩ => ⟨by rw [a1, tupleV_P, y2]; rfl, a2⟩
      have HWr : Hid (∀ W, Calls Tryz.prog 17 #[.string s, .string (tupS [tfail, textS why])] W fun e w' => e = .returned (pv (wrapP s (tupS [tfail, textS why]))) ∧ Below W.heap.size W w') := fun W => dwrap_any s _ W hs hT2
      clear HW hw y1 y2 y3 ys hT2 hts
      generalize tupS [tfail, textS why] = T at HTP HWr ⊢
      generalize textS why = tw at HTP HTX
      obtain ⟨R, hR⟩ : ∃ R, wrapP s T = R := ⟨_, rfl⟩
      rw [hR] at HWr ⊢
      clear hR
      obtain ⟨q1, q2⟩ := R
      dsimp only [pv] at HWr ⊢
      go_enter Tryz.func15, Tryz.ntmps15
      go_wp2_with (first
        | (go_at_call 70; (with_reducible refine Calls.mono (HR1.out _) ?_); rintro e w1 ⟨rfl, hb⟩; have B1 := Lib.hid hb; clear hb)
        | (go_at_call 71; (with_reducible refine Calls.mono (HTX.out _) ?_); rintro e w2 ⟨rfl, hb⟩; have B2 := Lib.hid (B1.out.trans (hb.mono B1.out.size)); clear hb)
        | (go_at_call 72; (with_reducible refine Calls.mono (HTP.out _) ?_); rintro e w3 ⟨rfl, hb⟩; have B3 := Lib.hid ((B2.out.alloc B2.out.size _).trans (hb.mono (B2.out.alloc B2.out.size _).size)); clear hb)
        | (go_at_call 17; (with_reducible refine Calls.mono (HWr.out _) ?_); rintro e w4 ⟨rfl, hb⟩; have B4 := Lib.hid (B3.out.trans (hb.mono B3.out.size)); clear hb))
      go_ret2
      exact ⟨rfl, B4.out⟩
set_option maxRecDepth 100000 in
set_option maxHeartbeats 8000000 in
theorem dread_any (o : Option Addr) (S : List ByteArray) (c : Nat) (f : ByteArray) (w : World) (hS : StrsAt o S w) (hSs : ∀ s ∈ S, s.size ≤ maxLen) (hSl : S.length ≤ 9223372036854775806) (hf : f.size ≤ maxLen) :
    Calls Tryz.prog 13 #[.slice o S.length c, .string f] w fun e w' => e = .returned (.tuple #[.int .i64 (rdE S 0 f).1, .string (rdE S 0 f).2.1, .int .i64 (rdE S 0 f).2.2]) ∧ Below w.heap.size w w' := by
  have HS := Lib.hid hS
  have HSS := Lib.hid hSs
  have HF := Lib.hid hf
  obtain ⟨R, hR⟩ : ∃ R, rdE S 0 f = R := ⟨_, rfl⟩
  have HR := Lib.hid hR
  rw [hR]
  clear hS hSs hf hR
  obtain ⟨R1, R2, R3⟩ := R
  dsimp only
  go_enter Tryz.func13, Tryz.ntmps13
  go_wp2_with fail
  go_loopw [1, 7] (fun fv iv wr => ∃ (i : Nat) (g : ByteArray), i ≤ S.length ∧ iv = .int .i64 i ∧ fv = .string g ∧ Hid (rdE (S.drop i) i g = (R1, R2, R3)) ∧ Hid (g.size ≤ maxLen) ∧ Hid (Below w.heap.size w wr)) (fun _ iv _ => S.length - (intOf iv).toNat)
  case atStart => exact ⟨0, f, Nat.zero_le _, rfl, rfl, HR.out, HF.out, Below.refl _ _⟩
  case round =>
    obtain ⟨i, g, hi, rfl, rfl, hrd, hg, hBl⟩ := hrel
    by_cases hlt : i < S.length
    · obtain ⟨s, hs⟩ : ∃ s, S[i]? = some s := ⟨_, List.getElem?_eq_getElem hlt⟩
      have hne : S ≠ [] := by intro h; rw [h] at hlt; simp at hlt
      obtain ⟨sb, sf, rfl, hc⟩ := (HS.out.below hBl.out).resolve_left hne
      have c0 := hc i s hs
      have hsz := HSS.out s (List.mem_of_getElem? hs)
      have hii : (i : Int) < (S.length : Int) := by omega
      have HB := Lib.hid (dback_any s wr hsz)
      have HUB : Hid (∀ W, Below w.heap.size w W → Calls Tryz.prog 63 #[.string (backP s).1, .string g] W fun e w' => e = .returned (.tuple #[.string ((unboxO (backP s).1 g).getD e0), .bool (unboxO (backP s).1 g).isSome]) ∧ Below W.heap.size W w') := fun W h => (runbox_any _ g W hg.out).mono fun e w' ⟨a1, a2⟩ => ⟨by rw [a1, unboxV_O], a2⟩
      have hst : Hid (_ = _) := rd_step (g := g) hs
      have hrd2 : Hid (_ = (R1, R2, R3)) := hst.out.symm.trans hrd.out
      have htm := unboxO_getD (backP s).1 g
      obtain ⟨U, hU⟩ : ∃ U, unboxO (backP s).1 g = U := ⟨_, rfl⟩
      rw [hU] at HUB hrd2 htm
      obtain ⟨k, hk⟩ : ∃ k, backP s = k := ⟨_, rfl⟩
      rw [hk] at HB HUB
      obtain ⟨k1, k2⟩ := k
      dsimp only [pv] at HB HUB
      clear hU hk hst hrd hc hs hsz hne
      cases U with
      | none =>
        have hr := hrd2.out
        simp only [Prod.mk.injEq] at hr
        obtain ⟨rfl, rfl, rfl⟩ := hr
        dsimp only [Option.getD_none, Option.isSome_none] at HUB
        go_wp2_with (first
          | (go_at_call 62; (with_reducible refine Calls.mono HB.out ?_); rintro e w1 ⟨rfl, hb⟩; have B1 := Lib.hid (hBl.out.trans (hb.mono hBl.out.size)); clear hb)
          | (go_at_call 63; (with_reducible refine Calls.mono (HUB.out _ B1.out) ?_); rintro e w2 ⟨rfl, hb⟩; have B2 := Lib.hid (B1.out.trans (hb.mono B1.out.size)); clear hb))
        go_ret3
        exact ⟨rfl, B2.out⟩
      | some t =>
        dsimp only [Option.getD_some, Option.isSome_some] at HUB htm
        have htm' : t.size ≤ maxLen := lt_max htm
        have HKT : Hid (∀ W, Below w.heap.size w W → Calls Tryz.prog 64 #[.string t, .int .i64 2] W (KidsPost (op4 t.data.toList) 2 W)) := fun W h => dtuple_any t 2 W _ (by omega) (dopen_any t W htm')
        have HRD : Hid ((match sayO t with | some u => (i, u, 0) | none => rdE (S.drop (i + 1)) (i + 1) t) = (R1, R2, R3)) := hrd2
        have hty : Hid (t.size ≤ maxLen) := htm'
        clear hrd2 htm htm'
        cases hT : isT (op4 t.data.toList) 2 with
        | false =>
          have hno : sayO t = none := by unfold sayO; rw [hT, if_neg (by simp)]
          have hr : Hid (rdE (S.drop (i + 1)) (i + 1) t = (R1, R2, R3)) := by have := HRD.out; rw [hno] at this; exact this
          have HKT2 : Hid (∀ W, Below w.heap.size w W → Calls Tryz.prog 64 #[.string t, .int .i64 2] W fun e w' => Below W.heap.size W w' ∧ ∃ o m k, e = .returned (.tuple #[.slice o m k, .bool false])) := fun W h => (HKT.out W h).mono fun e w' ⟨a1, o, k, a2, _⟩ => ⟨a1, o, (op4 t.data.toList).vs.length, k, by rw [a2, hT]⟩
          clear hT hno HRD HKT
          go_wp2_with (first
            | (go_at_call 62; (with_reducible refine Calls.mono HB.out ?_); rintro e w1 ⟨rfl, hb⟩; have B1 := Lib.hid (hBl.out.trans (hb.mono hBl.out.size)); clear hb)
            | (go_at_call 63; (with_reducible refine Calls.mono (HUB.out _ B1.out) ?_); rintro e w2 ⟨rfl, hb⟩; have B2 := Lib.hid (B1.out.trans (hb.mono B1.out.size)); clear hb)
            | (go_at_call 64; (with_reducible refine Calls.mono (HKT2.out _ B2.out) ?_); rintro e w3 ⟨hb, o3, m3, k3, rfl⟩; have B3 := Lib.hid (B2.out.trans (hb.mono B2.out.size)); clear hb))
          go_roundw
          case rel => exact ⟨i + 1, t, by omega, by go_num, rfl, hr.out, hty.out, B3.out⟩
          case measure => simp [intOf]; omega
        | true =>
          obtain ⟨l0, l1, hv⟩ := two_of (isT_vs hT)
          have hsay := say_two hT hv
          have hl1 := op4_kid t.data.toList l1 (by rw [hv]; simp)
          have HKT2 : Hid (∀ W, Below w.heap.size w W → Calls Tryz.prog 64 #[.string t, .int .i64 2] W fun e w' => Below W.heap.size W w' ∧ ∃ g3 f3 k, e = .returned (.tuple #[.slice (some ⟨g3, f3, none⟩) 2 k, .bool true]) ∧ w'.cell? ⟨g3, f3, none⟩ = some (.string l0) ∧ w'.cell? ⟨g3, f3 + 1, none⟩ = some (.string l1)) := fun W h => (HKT.out W h).mono fun e w' ⟨a1, o, k, a2, a3⟩ => by
            rw [hv] at a2 a3
            obtain ⟨g3, f3, rfl, a4⟩ := a3.resolve_left (by simp)
            exact ⟨a1, g3, f3, k, by rw [a2, hT]; rfl, by simpa using a4 0 l0 rfl, a4 1 l1 rfl⟩
          have HX : Hid (∀ W, Below w.heap.size w W → Calls Tryz.prog 65 #[.string l1] W fun e w' => e = .returned (.tuple #[.string (op4 l1.data.toList).u, .bool (isX (op4 l1.data.toList))]) ∧ Below W.heap.size W w') := fun W h => dtext_any l1 W _ (dopen_any l1 W (lt_max hl1))
          obtain ⟨q, hq⟩ : ∃ q, op4 l1.data.toList = q := ⟨_, rfl⟩
          rw [hq] at HX hsay
          clear hq hT hv HKT
          by_cases hl : l0 = tfail
          · subst hl
            have hcmp : (tfail.toList == [116, 52, 58, 102, 97, 105, 108]) = true := by rw [ByteArray.toList_eq]; rfl
            cases hx : isX q with
            | true =>
              rw [hx] at HX
              have hr := HRD.out
              rw [hsay, if_pos ⟨rfl, hx⟩] at hr
              simp only [Prod.mk.injEq] at hr
              obtain ⟨rfl, rfl, rfl⟩ := hr
              clear HRD hsay hx
              go_wp2_with (first
                | (go_at_call 62; (with_reducible refine Calls.mono HB.out ?_); rintro e w1 ⟨rfl, hb⟩; have B1 := Lib.hid (hBl.out.trans (hb.mono hBl.out.size)); clear hb)
                | (go_at_call 63; (with_reducible refine Calls.mono (HUB.out _ B1.out) ?_); rintro e w2 ⟨rfl, hb⟩; have B2 := Lib.hid (B1.out.trans (hb.mono B1.out.size)); clear hb)
                | (go_at_call 64; (with_reducible refine Calls.mono (HKT2.out _ B2.out) ?_); rintro e w3 ⟨hb, g3, f3, k3, rfl, x0, x1⟩; have B3 := Lib.hid (B2.out.trans (hb.mono B2.out.size)); clear hb)
                | (go_at_call 65; (with_reducible refine Calls.mono (HX.out _ B3.out) ?_); rintro e w4 ⟨rfl, hb⟩; have B4 := Lib.hid (B3.out.trans (hb.mono B3.out.size)); clear hb))
              go_ret3
              exact ⟨rfl, B4.out⟩
            | false =>
              rw [hx] at HX
              have hr : Hid (rdE (S.drop (i + 1)) (i + 1) t = (R1, R2, R3)) := by have := HRD.out; rw [hsay, if_neg (by rw [hx]; simp)] at this; exact this
              clear HRD hsay hx
              go_wp2_with (first
                | (go_at_call 62; (with_reducible refine Calls.mono HB.out ?_); rintro e w1 ⟨rfl, hb⟩; have B1 := Lib.hid (hBl.out.trans (hb.mono hBl.out.size)); clear hb)
                | (go_at_call 63; (with_reducible refine Calls.mono (HUB.out _ B1.out) ?_); rintro e w2 ⟨rfl, hb⟩; have B2 := Lib.hid (B1.out.trans (hb.mono B1.out.size)); clear hb)
                | (go_at_call 64; (with_reducible refine Calls.mono (HKT2.out _ B2.out) ?_); rintro e w3 ⟨hb, g3, f3, k3, rfl, x0, x1⟩; have B3 := Lib.hid (B2.out.trans (hb.mono B2.out.size)); clear hb)
                | (go_at_call 65; (with_reducible refine Calls.mono (HX.out _ B3.out) ?_); rintro e w4 ⟨rfl, hb⟩; have B4 := Lib.hid (B3.out.trans (hb.mono B3.out.size)); clear hb))
              go_roundw
              case rel => exact ⟨i + 1, t, by omega, by go_num, rfl, hr.out, hty.out, B4.out⟩
              case measure => simp [intOf]; omega
          · have hcmp : (l0.toList == [116, 52, 58, 102, 97, 105, 108]) = false := by
              have := toList_ne hl
              rwa [show tfail.toList = [116, 52, 58, 102, 97, 105, 108] from by rw [ByteArray.toList_eq]; rfl] at this
            have hr : Hid (rdE (S.drop (i + 1)) (i + 1) t = (R1, R2, R3)) := by have := HRD.out; rw [hsay, if_neg (fun h => hl h.1)] at this; exact this
            clear HRD hsay hl
            go_wp2_with (first
                | (go_at_call 62; (with_reducible refine Calls.mono HB.out ?_); rintro e w1 ⟨rfl, hb⟩; have B1 := Lib.hid (hBl.out.trans (hb.mono hBl.out.size)); clear hb)
                | (go_at_call 63; (with_reducible refine Calls.mono (HUB.out _ B1.out) ?_); rintro e w2 ⟨rfl, hb⟩; have B2 := Lib.hid (B1.out.trans (hb.mono B1.out.size)); clear hb)
                | (go_at_call 64; (with_reducible refine Calls.mono (HKT2.out _ B2.out) ?_); rintro e w3 ⟨hb, g3, f3, k3, rfl, x0, x1⟩; have B3 := Lib.hid (B2.out.trans (hb.mono B2.out.size)); clear hb)
                | (go_at_call 65; (with_reducible refine Calls.mono (HX.out _ B3.out) ?_); rintro e w4 ⟨rfl, hb⟩; have B4 := Lib.hid (B3.out.trans (hb.mono B3.out.size)); clear hb))
            go_roundw
            case rel => exact ⟨i + 1, t, by omega, by go_num, rfl, hr.out, hty.out, B3.out⟩
            case measure => simp [intOf]; omega
    · obtain rfl : i = S.length := by omega
      have hr := hrd.out
      rw [List.drop_length] at hr
      simp only [rdE, Prod.mk.injEq] at hr
      obtain ⟨rfl, rfl, rfl⟩ := hr
      go_wp2_with fail
      go_ret3
      exact ⟨rfl, hBl.out⟩
set_option maxRecDepth 100000 in
set_option maxHeartbeats 16000000 in
theorem fails_any (o : Option Addr) (S : List ByteArray) (c : Nat) (f why : ByteArray) (w : World) (hS : StrsAt o S w) (hSs : ∀ v ∈ S, v.size ≤ 140737488351232) (hSl : S.length ≤ 9223372036854775807) (hf : f.size ≤ maxLen) (hy : why.size ≤ maxLen) (hL : LibOk w) (hT : Tab w) :
    Calls Tryz.prog 3 #[.slice o S.length c, .string f, .string why] w fun e w' => e = .returned (.bool true) ∧ Below w.heap.size w w' := by
  have HG1 : Hid (∀ W, Below w.heap.size w W → Calls Tryz.prog 10 #[.slice o S.length c, .slice none 0 0] W (LargeP S.length 0 W)) := fun W hW => large_any o S c none [] 0 W (hS.below hW) hSs (.inl rfl) (by simp) hSl (by simp)
  have HW : Hid (∀ W, Below w.heap.size w W → Calls Tryz.prog 11 #[] W fun e w' => e = .returned (.bool true) ∧ Below W.heap.size W w') := fun W hW => works_onion W (hL.below hW) (hT.below hW)
  have HS := Lib.hid hS
  have HSS : Hid (∀ v ∈ S, v.size ≤ maxLen) := fun v hv => by have := hSs v hv; unfold maxLen; omega
  have HF := Lib.hid hf
  have HY := Lib.hid hy
  have HL := Lib.hid hL
  have HT := Lib.hid hT
  have hfi : (f.size : Int) ≤ 9223372036854775807 := by unfold maxLen at hf; omega
  have hyi : (why.size : Int) ≤ 9223372036854775807 := by unfold maxLen at hy; omega
  clear hS hSs hL hT hf hy
  go_enter Tryz.func3, Tryz.ntmps3
  go_upto_region 1 with fail
  go_cut [33] from 22 to 33 (fun v wx => ∃ b, v = .bool b ∧ (b = false → S.length ≤ 40000) ∧ Hid (Below w.heap.size w wx))
  case first =>
    go_wp2_with (go_at_call 10; (with_reducible refine Calls.mono (HG1.out _ (Below.refl _ _)) ?_); rintro e w1 ⟨b1, rfl, hb1, hb⟩; have B1 := Lib.hid hb; have HB1 := Lib.hid hb1; clear hb hb1)
    all_goals go_meet
    all_goals first | exact ⟨true, rfl, (fun h => by cases h), B1.out⟩ | exact ⟨_, rfl, (fun _ => (HB1.out (by first | rfl | assumption | simp_all)).1), B1.out⟩
  case rest =>
    obtain ⟨b, rfl, hp, HB⟩ := hcut
    cases b with
    | true =>
      go_wp2_with (go_at_call 11; (with_reducible refine Calls.mono (HW.out _ HB.out) ?_); rintro e w3 ⟨rfl, hb⟩; have B3 := Lib.hid (HB.out.trans (hb.mono HB.out.size)); clear hb)
      go_ret
      exact ⟨rfl, B3.out⟩
    | false =>
      have h4 := hp rfl
      clear hp
      have HR1 : Hid (∀ W, Below w.heap.size w W → Calls Tryz.prog 12 #[.slice o S.length c, .string f] W fun e w' => e = .returned (.tuple #[.int .i64 (rdE S 0 f).1, .string (rdE S 0 f).2.1, .int .i64 (rdE S 0 f).2.2]) ∧ Below W.heap.size W w') := fun W h => oread_any o S c f W (HS.out.below h) HSS.out (by omega) HF.out (HL.out.below h)
      have HR2 : Hid (∀ W, Below w.heap.size w W → Calls Tryz.prog 13 #[.slice o S.length c, .string f] W fun e w' => e = .returned (.tuple #[.int .i64 (rdE S 0 f).1, .string (rdE S 0 f).2.1, .int .i64 (rdE S 0 f).2.2]) ∧ Below W.heap.size W w') := fun W h => dread_any o S c f W (HS.out.below h) HSS.out (by omega) HF.out
      obtain ⟨R, hR⟩ : ∃ R, rdE S 0 f = R := ⟨_, rfl⟩
      rw [hR] at HR1 HR2
      obtain ⟨R1, R2, R3⟩ := R
      dsimp only at HR1 HR2
      clear hR
      go_upto_region 7 with (first
        | (go_at_call 12; (with_reducible refine Calls.mono (HR1.out _ HB.out) ?_); rintro e w2 ⟨rfl, hb⟩; have B2 := Lib.hid (HB.out.trans (hb.mono HB.out.size)); clear hb)
        | (go_at_call 13; (with_reducible refine Calls.mono (HR2.out _ B2.out) ?_); rintro e w3 ⟨rfl, hb⟩; have B3 := Lib.hid (B2.out.trans (hb.mono B2.out.size)); clear hb))
      go_wp2_with fail
      go_loopw [13] (fun iv wr => ∃ i : Nat, i ≤ S.length ∧ i ≤ 5 ∧ iv = .int .i64 i ∧ Hid (Below w.heap.size w wr)) (fun iv _ => S.length - (intOf iv).toNat)
      case atStart => exact ⟨0, Nat.zero_le _, by omega, rfl, B3.out⟩
      case round =>
        obtain ⟨i, hi, hi5, rfl, hBl⟩ := hrel
        by_cases hlt : i < S.length ∧ i < 5
        · obtain ⟨hlt, hlt5⟩ := hlt
          obtain ⟨s, hs⟩ : ∃ s, S[i]? = some s := ⟨_, List.getElem?_eq_getElem hlt⟩
          have hne : S ≠ [] := by intro h; rw [h] at hlt; simp at hlt
          obtain ⟨sb, sf, rfl, hc⟩ := HS.out.resolve_left hne
          have CC : Hid (∀ W, Below w.heap.size w W → W.cell? ⟨sb, sf + i, none⟩ = some (.string s)) := fun W h => cell_later' h (hc i s hs)
          have hsz := HSS.out s (List.mem_of_getElem? hs)
          have hii : (i : Int) < (S.length : Int) := by omega
          have hi6 : (i : Int) < 5 := by omega
          have C1 : Hid (∀ W, Below w.heap.size w W → Calls Tryz.prog 14 #[.string s, .string why] W fun e w' => e = .returned (pv (failP s why)) ∧ Below W.heap.size W w') := fun W h => ofail_any s why W hsz HY.out (HL.out.below h) (HT.out.below h)
          have C2 : Hid (∀ W, Calls Tryz.prog 15 #[.string s, .string why] W fun e w' => e = .returned (pv (failP s why)) ∧ Below W.heap.size W w') := fun W => dfail_any s why W hsz HY.out
          have C3 : Hid (∀ W, Below w.heap.size w W → Calls Tryz.prog 16 #[.string s, .string f] W fun e w' => e = .returned (pv (wrapP s f)) ∧ Below W.heap.size W w') := fun W h => owrap_any s f W hsz HF.out (HL.out.below h)
          have C4 : Hid (∀ W, Calls Tryz.prog 17 #[.string s, .string f] W fun e w' => e = .returned (pv (wrapP s f)) ∧ Below W.heap.size W w') := fun W => dwrap_any s f W hsz HF.out
          obtain ⟨X, hX⟩ : ∃ X, failP s why = X := ⟨_, rfl⟩
          obtain ⟨Y, hY⟩ : ∃ Y, wrapP s f = Y := ⟨_, rfl⟩
          rw [hX] at C1 C2
          rw [hY] at C3 C4
          obtain ⟨x1, x2⟩ := X
          obtain ⟨y1, y2⟩ := Y
          dsimp only [pv] at C1 C2 C3 C4
          clear hX hY hc hs hsz hne
          have c0 := CC.out _ hBl.out
          go_wp2_with (first
            | (go_at_call 14; (with_reducible refine Calls.mono (C1.out _ hBl.out) ?_); rintro e w4 ⟨rfl, hb⟩; have B4 := Lib.hid (hBl.out.trans (hb.mono hBl.out.size)); have c4 := CC.out _ B4.out; clear hb)
            | (go_at_call 15; (with_reducible refine Calls.mono (C2.out _) ?_); rintro e w5 ⟨rfl, hb⟩; have B5 := Lib.hid (B4.out.trans (hb.mono B4.out.size)); have c5 := CC.out _ B5.out; clear hb)
            | (go_at_call 16; (with_reducible refine Calls.mono (C3.out _ B5.out) ?_); rintro e w6 ⟨rfl, hb⟩; have B6 := Lib.hid (B5.out.trans (hb.mono B5.out.size)); have c6 := CC.out _ B6.out; clear hb)
            | (go_at_call 17; (with_reducible refine Calls.mono (C4.out _) ?_); rintro e w7 ⟨rfl, hb⟩; have B7 := Lib.hid (B6.out.trans (hb.mono B6.out.size)); clear hb))
          go_roundw
          case rel => exact ⟨i + 1, by omega, by omega, by go_num, B7.out⟩
          case measure => simp [intOf]; omega
        · have hcase : (S.length : Int) ≤ (i : Int) ∨ (i : Int) < (S.length : Int) ∧ (5 : Int) ≤ (i : Int) := by omega
          rcases hcase with hc | ⟨hc, hc0⟩
          · have q0 := decN ((i : Int) < (S.length : Int)) (by omega)
            go_wp2_with (go_at_call 11; (with_reducible refine Calls.mono (HW.out _ hBl.out) ?_); rintro e w5 ⟨rfl, hb⟩; have B5 := Lib.hid (hBl.out.trans (hb.mono hBl.out.size)); clear hb)
            go_ret
            exact ⟨rfl, B5.out⟩
          · have q0 := decN ((i : Int) < (5 : Int)) (by omega)
            go_wp2_with (go_at_call 11; (with_reducible refine Calls.mono (HW.out _ hBl.out) ?_); rintro e w5 ⟨rfl, hb⟩; have B5 := Lib.hid (hBl.out.trans (hb.mono hBl.out.size)); clear hb)
            go_ret
            exact ⟨rfl, B5.out⟩
theorem fails_law (a0 : Option Addr) (l0 : List ByteArray) (n0 c0 : Nat) (a1 a2 : ByteArray) (w : World) (hl0 : l0.length = n0) (m0 : n0 ≤ maxLen) (z0 : ∀ s ∈ l0, s.size ≤ 140737488351232) (hs0 : StrsAt a0 l0 w) (m1 : a1.size ≤ maxLen) (m2 : a2.size ≤ maxLen) (hL : LibOk w) (hT : Tab w) :
    Calls Tryz.prog 3 #[.slice a0 n0 c0, .string a1, .string a2] w fun e w' => e = .returned (.bool true) ∧ Below w.heap.size w w' := by
  subst hl0
  exact fails_any a0 l0 c0 a1 a2 w hs0 z0 (by unfold maxLen at m0; omega) m1 m2 hL hT
end Go.Proofs.YtbdimlppnhcicaaGreatDoor
