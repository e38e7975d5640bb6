/- wire: the document's Encode -/
import Derived.Test.YtakfhoodjcfpcaaDoorWrF
import Derived.Lib.AppendStr
namespace Go.Proofs.YtakfhoodjcfpcaaDoor.T
set_option linter.unusedVariables false
set_option maxRecDepth 100000
open Go.RowKit Tlv Wire
/-! wire: the document's Encode -/
theorem app_E {w' : World} {base n : Nat} {v' : Value} {l l' L : List UInt8} (ho : w'.ownsRow base 5 1 v' n (l.map bv ++ l'.map bv)) (hL : l ++ l' = L) : Byt w' base v' L := byt_of' ho (by rw [← hL, List.map_append])
theorem u64n (n : Nat) (h : n ≤ 1000000) : IntKind.u64.wrap (n : Int) = (n : Int) := by
  unfold IntKind.wrap
  have e1 : (2 : Int) ^ IntKind.u64.bits = 18446744073709551616 := by decide
  simp [IntKind.signed, e1]
  omega
/-- the document's Put of a length -/
theorem putn (n : Nat) (w : World) : Calls Tryd.prog 31 #[.int .u64 (n : Int)] w (NewPost w (putN n)) := by
  have := putr_any (n : Int) (by omega) w
  rw [Int.toNat_natCast] at this
  exact this
set_option maxHeartbeats 2000000 in
theorem textr_any (s : ByteArray) (hs : s.size ≤ 100000) (w : World) : Calls Tryd.prog 30 #[.string s] w (NewPost w (tx s)) := by
  obtain ⟨i0, hi0, hz0, hz1, hz2⟩ := info_parts Tryd.info5
  have hu := u64n s.size (by omega)
  have hp := (putN_pos s.size).2
  have HPP := Lib.hid hp
  clear hp
  go_enter Tryd.func30, Tryd.ntmps30
  go_wp2_with (first
    | (go_at_call 31; (with_reducible refine Calls.mono (putn s.size _) ?_); rintro e w1 ⟨v1, rfl, hv1, hb1⟩; obtain ⟨a1, c1, rfl⟩ := own_slice hv1; have HV1 := Lib.hid hv1; have HB1 := Lib.hid hb1; clear hv1 hb1)
    | (at_builtin; refine Lib.wpList_append_own_string _ rfl _ _ 33 9 rfl w.heap.size 5 i0 Tryd.underlying33 Tryd.underlying9 hi0 hz0 hz1 hz2 _ _ _ rfl HV1.out s rfl (by have := HPP.out; unfold maxLen; omega) (by have := HPP.out; omega) HB1.out.size ?_; intro v2 w2 ho hg hn; obtain ⟨va2, vc2, rfl⟩ := own_slice ho; have HO := Lib.hid ho; have HG := Lib.hid hg; clear ho hg hn))
  go_ret
  refine ⟨_, rfl, ?_, HB1.out.grown HG.out HB1.out.size (fun k hk => (HV1.out.lt k hk).1)⟩
  exact byt_of' HO.out (by unfold tx; rw [List.map_append]; rfl)
theorem two_src (w : World) (x y : UInt8) (fr : Nat × Nat) : Byt (w.alloc (.cells #[.int .u8 (x.toNat : Int), .int .u8 (y.toNat : Int)] 5)) w.heap.size (.slice (some ⟨w.heap.size, 0, none⟩) 2 2) [x, y] :=
  ⟨rfl, .inr ⟨w.heap.size, 2, _, rfl, Nat.le_refl _, heap_alloc_at w _, Nat.le_refl _, by unfold maxLen; omega, rfl, rfl⟩⟩
theorem be_two (n : Nat) : be 2 n = [UInt8.ofNat (n / 256), UInt8.ofNat n] := by simp [be]
theorem encoder_no (m : Wire.Msg) (na : Option Addr) (nc : Nat) (ta : Option Addr) (tc : Nat) (ra : Option Addr) (rc : Nat) (w : World) (hB : MB m) (hbd : bodies m.more ≤ 4000) (hA : MA w m na ta ra) (hno : mayN R m = false) :
    Calls Tryd.prog 14 #[.agg #[.int .u16 (m.kind : Int), .string m.chan, .slice na m.nums.length nc, .slice ta m.terms.length tc, .string m.text, .slice ra m.more.length rc]] w (EncPost m w) := by
  have hE : encN R m = ([], 80) := by unfold encN; rw [hno]; rfl
  have HM := mayr_any m na nc ta tc ra rc _ hB hbd (hA.later (below_new w (boxV m na nc ta tc ra rc)))
  rw [hno] at HM
  unfold boxV at HM
  unfold EncPost
  rw [hE]
  have HM' := Lib.hid HM
  clear HM hE hno hB hA hbd
  go_enter Tryd.func14, Tryd.ntmps14
  go_wp2_with (go_at_call 29; (with_reducible refine Calls.mono HM'.out ?_); rintro e w1 ⟨rfl, hb1⟩; have HB1 := Lib.hid hb1; clear hb1)
  go_ret2
  exact ⟨_, rfl, byt_nil _ _, (below_new w _).trans (HB1.out.mono (below_new w _).size)⟩
set_option maxHeartbeats 32000000 in
theorem encoder_yes (m : Wire.Msg) (na : Option Addr) (nc : Nat) (ta : Option Addr) (tc : Nat) (ra : Option Addr) (rc : Nat) (w : World) (hB : MB m) (hk : m.kind < 65536) (hbd : bodies m.more ≤ 4000) (hA : MA w m na ta ra) (hyes : mayN R m = true) :
    Calls Tryd.prog 14 #[.agg #[.int .u16 (m.kind : Int), .string m.chan, .slice na m.nums.length nc, .slice ta m.terms.length tc, .string m.text, .slice ra m.more.length rc]] w (EncPost m w) := by
  have hE : encN R m = if 32768 < (encB m).length then ([], 3) else (encB m, 0) := by unfold encN; rw [hyes]; rfl
  have EL0 := Lib.hid (el_of m hyes)
  have hbA : Below w.heap.size w (w.alloc (boxV m na nc ta tc ra rc)) := below_new w _
  have HM := mayr_any m na nc ta tc ra rc _ hB hbd (hA.later hbA)
  rw [hyes] at HM
  have hmc : MC (w.alloc (boxV m na nc ta tc ra rc)) w.heap.size #[.int .u16 (m.kind : Int), .string m.chan, .slice na m.nums.length nc, .slice ta m.terms.length tc, .string m.text, .slice ra m.more.length rc] := heap_alloc_at w _
  have HM' := Lib.hid HM
  have HA := Lib.hid (hA.later hbA)
  have HBA := Lib.hid hbA
  have HMC := Lib.hid hmc
  have HS := Lib.hid (fun (W : World) (h : Recs W ra m.more) => show Calls Tryd.prog 32 #[.slice ra m.more.length rc] W (StreamPost m.more W) from by
    by_cases hl : m.more.length ≤ 64
    · exact streamr_few ra rc m.more W hl h hB.types hbd
    · exact streamr_many ra rc m.more W (by omega) (by have := hB.lm; unfold maxLen; omega))
  unfold StreamPost at HS
  unfold EncPost
  have HE := Lib.hid hE
  obtain ⟨er, her⟩ : ∃ er, encN R m = er := ⟨_, rfl⟩
  rw [her]
  have HER := Lib.hid her
  have hq1 := put_byte (m.kind : Int) (by omega) 1 256 rfl
  have hq0 := put_byte (m.kind : Int) (by omega) 0 1 rfl
  rw [Int.toNat_natCast] at hq1 hq0
  rw [Int.ediv_one] at hq0
  rw [show 256 ^ 1 = 256 from rfl] at hq1
  rw [show m.kind / 256 ^ 0 = m.kind by simp] at hq0
  obtain ⟨x1, hx1⟩ : ∃ x1, UInt8.ofNat (m.kind / 256) = x1 := ⟨_, rfl⟩
  obtain ⟨x0, hx0⟩ : ∃ x0, UInt8.ofNat m.kind = x0 := ⟨_, rfl⟩
  have HX10 : Hid (E1 m = [x1, x0]) := by show _ = _; unfold E1; rw [be_two, hx1, hx0]
  rw [hx1] at hq1
  rw [hx0] at hq0
  have hu1 := u64n m.nums.length (by have := EL0.out.ln; omega)
  have hu2 := u64n m.terms.length (by have := EL0.out.lt; omega)
  clear HM hE hyes hB hA hmc hbA her hx1 hx0 hbd
  unfold boxV at HM' HA HBA HMC
  go_enter Tryd.func14, Tryd.ntmps14
  go_upto_region 3 with (go_at_call 29; (with_reducible refine Calls.mono HM'.out ?_); rintro e w1 ⟨rfl, hb1⟩; have HB1 := Lib.hid hb1; clear hb1)
  clear HM'
  generalize w.alloc (.cells #[.int .u16 (m.kind : Int), .string m.chan, .slice na m.nums.length nc, .slice ta m.terms.length tc, .string m.text, .slice ra m.more.length rc] 27) = wA at HA HBA HMC HB1
  obtain ⟨d0, _, _, _, _, _⟩ := (HMC.out.later HB1.out).cells
  go_upto_region 4 with fail
  clear d0
  have HO2 : Hid (Byt (w1.alloc (.cells #[.int .u8 (x1.toNat : Int), .int .u8 (x0.toNat : Int)] 5)) wA.heap.size (.slice (some ⟨w1.heap.size, 0, none⟩) 2 2) (E1 m)) := by
    show Byt _ _ _ _
    rw [HX10.out]
    exact byt_base (two_src w1 x1 x0 (0, 0)) HB1.out.size
  have HB2 := Lib.hid (HB1.out.alloc HB1.out.size (.cells #[.int .u8 (x1.toNat : Int), .int .u8 (x0.toNat : Int)] 5))
  generalize w1.alloc (.cells #[.int .u8 (x1.toNat : Int), .int .u8 (x0.toNat : Int)] 5) = w2 at HO2 HB2 ⊢
  obtain ⟨_, d1, _, _, _, _⟩ := (HMC.out.later HB2.out).cells
  go_upto_region 5 with (first
    | (go_at_call 30; (with_reducible refine Calls.mono (textr_any m.chan (by have := EL0.out.lc; omega) _) ?_); rintro e w3 ⟨v3, rfl, hv3, hb3⟩; obtain ⟨a3, c3, rfl⟩ := own_slice hv3; have HS3 := Lib.hid (Src.of_byt hv3); have HO3 := Lib.hid (HO2.out.below hb3); have HB3 := Lib.hid (HB2.out.trans (hb3.mono HB2.out.size)); clear hv3 hb3)
    | (at_builtin; refine wpList_app rfl _ _ rfl wA.heap.size _ _ _ rfl HO3.out a3 (tx m.chan) c3 rfl HS3.out (by have := EL0.out.l1; have := tx_len m.chan; have := EL0.out.lc; omega) HB3.out.size ?_; intro v4 w4 ho hg ha; have ho' : Byt w4 wA.heap.size v4 (E2 m) := app_E ho (rfl); have HB4 := Lib.hid (HB3.out.grown hg HB3.out.size (fun k hk => (HO3.out.lt k hk).1)); obtain ⟨va4, vc4, rfl⟩ := own_slice ho'; have HO4 := Lib.hid ho'; clear ho hg ha ho'))
  clear d1
  obtain ⟨_, _, d2, _, _, _⟩ := (HMC.out.later HB4.out).cells
  go_upto_region 6 with (first
    | (go_at_call 31; (with_reducible refine Calls.mono (putn m.nums.length _) ?_); rintro e w5 ⟨v5, rfl, hv5, hb5⟩; obtain ⟨a5, c5, rfl⟩ := own_slice hv5; have HS5 := Lib.hid (Src.of_byt hv5); have HO5 := Lib.hid (HO4.out.below hb5); have HB5 := Lib.hid (HB4.out.trans (hb5.mono HB4.out.size)); clear hv5 hb5)
    | (at_builtin; refine wpList_app rfl _ _ rfl wA.heap.size _ _ _ rfl HO5.out a5 (putN m.nums.length) c5 rfl HS5.out (by have := EL0.out.l2; have := (putN_pos m.nums.length).2; omega) HB5.out.size ?_; intro v6 w6 ho hg ha; have ho' : Byt w6 wA.heap.size v6 (E3 m) := app_E ho (rfl); have HB6 := Lib.hid (HB5.out.grown hg HB5.out.size (fun k hk => (HO5.out.lt k hk).1)); obtain ⟨va6, vc6, rfl⟩ := own_slice ho'; have HO6 := Lib.hid ho'; clear ho hg ha ho'))
  clear d2
  obtain ⟨_, _, d2, _, _, _⟩ := (HMC.out.later HB6.out).cells
  go_wp2_with fail
  go_loopw [4, 5] (fun bv' iv wr => ∃ (k : Nat) (a : Option Addr) (c : Nat), k ≤ m.nums.length ∧ iv = .int .i64 k ∧ bv' = .slice a (E3 m ++ nb (m.nums.take k)).length c ∧ Hid (Byt wr wA.heap.size (.slice a (E3 m ++ nb (m.nums.take k)).length c) (E3 m ++ nb (m.nums.take k))) ∧ Hid (Below wA.heap.size wA wr)) (fun _ iv _ => m.nums.length - (intOf iv).toNat)
  case atStart =>
    have e : E3 m ++ nb (m.nums.take 0) = E3 m := by simp [nb]
    refine ⟨0, va6, vc6, Nat.zero_le _, by go_num, by rw [e], ?_, HB6.out⟩
    rw [e]; exact HO6.out
  case round =>
    obtain ⟨k, ak, ck, hkl, rfl, rfl, hOk, hBk⟩ := hrel
    obtain ⟨A, hA'⟩ : ∃ A, E3 m ++ nb (m.nums.take k) = A := ⟨_, rfl⟩
    have HAE := Lib.hid hA'
    have hAl : A.length ≤ 120 + 8 * m.nums.length := by
      rw [← hA', List.length_append, nb_len, List.length_take]
      have := EL0.out.l3
      omega
    have HAL := Lib.hid hAl
    rw [hA'] at hOk ⊢
    clear hA' hAl d2
    obtain ⟨_, _, d2, _, _, _⟩ := (HMC.out.later hBk.out).cells
    by_cases hlt : k < m.nums.length
    · obtain ⟨x, hx⟩ : ∃ x, m.nums[k]? = some x := ⟨_, List.getElem?_eq_getElem hlt⟩
      have hne : m.nums ≠ [] := by intro h; rw [h] at hlt; simp at hlt
      obtain ⟨b, off, hna, hrec0⟩ := HA.out.nums.resolve_left hne
      have HC0 : Hid (∀ W, Below wA.heap.size wA W → W.cell? ⟨b, off + k, none⟩ = some (.int .i64 x)) := fun W h => cell_later h (hrec0 k x hx)
      have hkl2 : (k : Int) < (m.nums.length : Int) := by omega
      have htk := Lib.hid (nb_take m.nums k x hx)
      obtain ⟨xv, hxv⟩ : ∃ xv, IntKind.u64.wrap x = xv := ⟨_, rfl⟩
      have HXV : Hid (xv = ((nat64 x : Nat) : Int)) := hxv.symm.trans (nat64_eq x)
      have hln := EL0.out.ln
      clear hrec0 hx
      subst hna
      go_wp2_with fail
      go_loopw [4, 6] (fun bv' kv wr => ∃ (j : Nat) (l : List UInt8) (a : Option Addr) (c : Nat), j ≤ 8 ∧ kv = .int .i64 (8 * (j : Int) - 8) ∧ bv' = .slice a l.length c ∧ l.length = A.length + (8 - j) ∧ Hid (A ++ be 8 (nat64 x) = l ++ be j (nat64 x)) ∧ Hid (Byt wr wA.heap.size (.slice a l.length c) l) ∧ Hid (Below wA.heap.size wA wr)) (fun _ kv _ => (intOf kv + 8).toNat)
      case atStart => exact ⟨8, A, ak, ck, by omega, by go_num, rfl, by omega, rfl, hOk.out, hBk.out⟩
      case round =>
        obtain ⟨j, l, a, c, hj, rfl, rfl, hll, hE, hOj, hBj⟩ := hrel
        obtain ⟨_, _, d2', _, _, _⟩ := (HMC.out.later hBj.out).cells
        have c0 := HC0.out _ hBj.out
        by_cases hj0 : j = 0
        · subst hj0
          rw [show 8 * ((0 : Nat) : Int) - 8 = -8 from rfl]
          have hlA : l = E3 m ++ nb (m.nums.take (k + 1)) := by
            have := hE.out
            rw [be, List.append_nil] at this
            rw [← this, htk.out, ← List.append_assoc, HAE.out]
          have HLA := Lib.hid hlA
          clear hlA hll
          go_wp2_with fail
          go_roundw
          case rel =>
            have e := HLA.out
            refine ⟨k + 1, a, c, by omega, by go_num, by rw [e], ?_, hBj.out⟩
            have := hOj.out
            rw [e] at this
            exact this
          case measure => simp [intOf]; omega
        · obtain ⟨i, rfl⟩ : ∃ i, j = i + 1 := ⟨j - 1, by omega⟩
          have hwr := put_byte xv (by have := HXV.out; omega) i _ rfl
          have hq : Hid (IntKind.u8.wrap (xv / (((256 ^ i : Nat)) : Int)) = ((UInt8.ofNat (nat64 x / 256 ^ i)).toNat : Int)) := by
            show _ = _
            rw [hwr]
            congr 3
            rw [HXV.out]
            rfl
          clear hwr
          obtain ⟨y, hy⟩ : ∃ y : UInt8, UInt8.ofNat (nat64 x / 256 ^ i) = y := ⟨_, rfl⟩
          have HY := Lib.hid hy
          rw [hy] at hq
          clear hy
          have HALN := HAL.out
          have HLY : Hid (l.length + [y].length ≤ 140737488355328) := by show _ ≤ _; simp; omega
          have HLL := Lib.hid hll
          have hr : i = 0 ∨ i = 1 ∨ i = 2 ∨ i = 3 ∨ i = 4 ∨ i = 5 ∨ i = 6 ∨ i = 7 := by omega
          have HM := Lib.hid hr
          clear hr hll HALN
          rcases HM.out with rfl | rfl | rfl | rfl | rfl | rfl | rfl | rfl
          · have hv : IntKind.u8.wrap xv = (y.toNat : Int) := (by have := hq.out; rw [show ((256 ^ 0 : Nat) : Int) = 1 from rfl, Int.ediv_one] at this; exact this)
            rw [show 8 * ((0 + 1 : Nat) : Int) - 8 = 0 from rfl]
            go_wp2_with (at_builtin; refine wpList_app rfl _ _ rfl wA.heap.size _ _ _ rfl (World.ownsRow.alloc hOj.out _) (some ⟨wr.heap.size, 0, none⟩) [y] 1 rfl (src_new wr y) HLY.out (by have := hBj.out.size; simp; omega) ?_; intro v1 w1' ho hg ha; have ho' : Byt w1' wA.heap.size v1 (l ++ [y]) := app_E ho rfl; have HBN := Lib.hid ((hBj.out.alloc hBj.out.size _).grown hg (by have := hBj.out.size; simp; omega) (fun k hk => (hOj.out.lt k hk).1)); obtain ⟨va1, vc1, rfl⟩ := own_slice ho'; have HON := Lib.hid ho'; clear ho hg ha ho')
            go_roundw
            case rel => exact ⟨0, l ++ [y], va1, vc1, by omega, by go_num, by simp, by have := HLL.out; simp; omega, be_next hE.out HY.out, HON.out, HBN.out⟩
            case measure => simp [intOf]
          · have hv : IntKind.u8.wrap (xv / 256) = (y.toNat : Int) := hq.out
            rw [show 8 * ((1 + 1 : Nat) : Int) - 8 = 8 from rfl]
            go_wp2_with (at_builtin; refine wpList_app rfl _ _ rfl wA.heap.size _ _ _ rfl (World.ownsRow.alloc hOj.out _) (some ⟨wr.heap.size, 0, none⟩) [y] 1 rfl (src_new wr y) HLY.out (by have := hBj.out.size; simp; omega) ?_; intro v1 w1' ho hg ha; have ho' : Byt w1' wA.heap.size v1 (l ++ [y]) := app_E ho rfl; have HBN := Lib.hid ((hBj.out.alloc hBj.out.size _).grown hg (by have := hBj.out.size; simp; omega) (fun k hk => (hOj.out.lt k hk).1)); obtain ⟨va1, vc1, rfl⟩ := own_slice ho'; have HON := Lib.hid ho'; clear ho hg ha ho')
            go_roundw
            case rel => exact ⟨1, l ++ [y], va1, vc1, by omega, by go_num, by simp, by have := HLL.out; simp; omega, be_next hE.out HY.out, HON.out, HBN.out⟩
            case measure => simp [intOf]
          · have hv : IntKind.u8.wrap (xv / 65536) = (y.toNat : Int) := hq.out
            rw [show 8 * ((2 + 1 : Nat) : Int) - 8 = 16 from rfl]
            go_wp2_with (at_builtin; refine wpList_app rfl _ _ rfl wA.heap.size _ _ _ rfl (World.ownsRow.alloc hOj.out _) (some ⟨wr.heap.size, 0, none⟩) [y] 1 rfl (src_new wr y) HLY.out (by have := hBj.out.size; simp; omega) ?_; intro v1 w1' ho hg ha; have ho' : Byt w1' wA.heap.size v1 (l ++ [y]) := app_E ho rfl; have HBN := Lib.hid ((hBj.out.alloc hBj.out.size _).grown hg (by have := hBj.out.size; simp; omega) (fun k hk => (hOj.out.lt k hk).1)); obtain ⟨va1, vc1, rfl⟩ := own_slice ho'; have HON := Lib.hid ho'; clear ho hg ha ho')
            go_roundw
            case rel => exact ⟨2, l ++ [y], va1, vc1, by omega, by go_num, by simp, by have := HLL.out; simp; omega, be_next hE.out HY.out, HON.out, HBN.out⟩
            case measure => simp [intOf]
          · have hv : IntKind.u8.wrap (xv / 16777216) = (y.toNat : Int) := hq.out
            rw [show 8 * ((3 + 1 : Nat) : Int) - 8 = 24 from rfl]
            go_wp2_with (at_builtin; refine wpList_app rfl _ _ rfl wA.heap.size _ _ _ rfl (World.ownsRow.alloc hOj.out _) (some ⟨wr.heap.size, 0, none⟩) [y] 1 rfl (src_new wr y) HLY.out (by have := hBj.out.size; simp; omega) ?_; intro v1 w1' ho hg ha; have ho' : Byt w1' wA.heap.size v1 (l ++ [y]) := app_E ho rfl; have HBN := Lib.hid ((hBj.out.alloc hBj.out.size _).grown hg (by have := hBj.out.size; simp; omega) (fun k hk => (hOj.out.lt k hk).1)); obtain ⟨va1, vc1, rfl⟩ := own_slice ho'; have HON := Lib.hid ho'; clear ho hg ha ho')
            go_roundw
            case rel => exact ⟨3, l ++ [y], va1, vc1, by omega, by go_num, by simp, by have := HLL.out; simp; omega, be_next hE.out HY.out, HON.out, HBN.out⟩
            case measure => simp [intOf]
          · have hv : IntKind.u8.wrap (xv / 4294967296) = (y.toNat : Int) := hq.out
            rw [show 8 * ((4 + 1 : Nat) : Int) - 8 = 32 from rfl]
            go_wp2_with (at_builtin; refine wpList_app rfl _ _ rfl wA.heap.size _ _ _ rfl (World.ownsRow.alloc hOj.out _) (some ⟨wr.heap.size, 0, none⟩) [y] 1 rfl (src_new wr y) HLY.out (by have := hBj.out.size; simp; omega) ?_; intro v1 w1' ho hg ha; have ho' : Byt w1' wA.heap.size v1 (l ++ [y]) := app_E ho rfl; have HBN := Lib.hid ((hBj.out.alloc hBj.out.size _).grown hg (by have := hBj.out.size; simp; omega) (fun k hk => (hOj.out.lt k hk).1)); obtain ⟨va1, vc1, rfl⟩ := own_slice ho'; have HON := Lib.hid ho'; clear ho hg ha ho')
            go_roundw
            case rel => exact ⟨4, l ++ [y], va1, vc1, by omega, by go_num, by simp, by have := HLL.out; simp; omega, be_next hE.out HY.out, HON.out, HBN.out⟩
            case measure => simp [intOf]
          · have hv : IntKind.u8.wrap (xv / 1099511627776) = (y.toNat : Int) := hq.out
            rw [show 8 * ((5 + 1 : Nat) : Int) - 8 = 40 from rfl]
            go_wp2_with (at_builtin; refine wpList_app rfl _ _ rfl wA.heap.size _ _ _ rfl (World.ownsRow.alloc hOj.out _) (some ⟨wr.heap.size, 0, none⟩) [y] 1 rfl (src_new wr y) HLY.out (by have := hBj.out.size; simp; omega) ?_; intro v1 w1' ho hg ha; have ho' : Byt w1' wA.heap.size v1 (l ++ [y]) := app_E ho rfl; have HBN := Lib.hid ((hBj.out.alloc hBj.out.size _).grown hg (by have := hBj.out.size; simp; omega) (fun k hk => (hOj.out.lt k hk).1)); obtain ⟨va1, vc1, rfl⟩ := own_slice ho'; have HON := Lib.hid ho'; clear ho hg ha ho')
            go_roundw
            case rel => exact ⟨5, l ++ [y], va1, vc1, by omega, by go_num, by simp, by have := HLL.out; simp; omega, be_next hE.out HY.out, HON.out, HBN.out⟩
            case measure => simp [intOf]
          · have hv : IntKind.u8.wrap (xv / 281474976710656) = (y.toNat : Int) := hq.out
            rw [show 8 * ((6 + 1 : Nat) : Int) - 8 = 48 from rfl]
            go_wp2_with (at_builtin; refine wpList_app rfl _ _ rfl wA.heap.size _ _ _ rfl (World.ownsRow.alloc hOj.out _) (some ⟨wr.heap.size, 0, none⟩) [y] 1 rfl (src_new wr y) HLY.out (by have := hBj.out.size; simp; omega) ?_; intro v1 w1' ho hg ha; have ho' : Byt w1' wA.heap.size v1 (l ++ [y]) := app_E ho rfl; have HBN := Lib.hid ((hBj.out.alloc hBj.out.size _).grown hg (by have := hBj.out.size; simp; omega) (fun k hk => (hOj.out.lt k hk).1)); obtain ⟨va1, vc1, rfl⟩ := own_slice ho'; have HON := Lib.hid ho'; clear ho hg ha ho')
            go_roundw
            case rel => exact ⟨6, l ++ [y], va1, vc1, by omega, by go_num, by simp, by have := HLL.out; simp; omega, be_next hE.out HY.out, HON.out, HBN.out⟩
            case measure => simp [intOf]
          · have hv : IntKind.u8.wrap (xv / 72057594037927936) = (y.toNat : Int) := hq.out
            rw [show 8 * ((7 + 1 : Nat) : Int) - 8 = 56 from rfl]
            go_wp2_with (at_builtin; refine wpList_app rfl _ _ rfl wA.heap.size _ _ _ rfl (World.ownsRow.alloc hOj.out _) (some ⟨wr.heap.size, 0, none⟩) [y] 1 rfl (src_new wr y) HLY.out (by have := hBj.out.size; simp; omega) ?_; intro v1 w1' ho hg ha; have ho' : Byt w1' wA.heap.size v1 (l ++ [y]) := app_E ho rfl; have HBN := Lib.hid ((hBj.out.alloc hBj.out.size _).grown hg (by have := hBj.out.size; simp; omega) (fun k hk => (hOj.out.lt k hk).1)); obtain ⟨va1, vc1, rfl⟩ := own_slice ho'; have HON := Lib.hid ho'; clear ho hg ha ho')
            go_roundw
            case rel => exact ⟨7, l ++ [y], va1, vc1, by omega, by go_num, by simp, by have := HLL.out; simp; omega, be_next hE.out HY.out, HON.out, HBN.out⟩
            case measure => simp [intOf]
    · obtain rfl : k = m.nums.length := by omega
      have hA4 : A = E3 m ++ nb m.nums := by rw [← HAE.out, List.take_length]
      have HA4 := Lib.hid hA4
      obtain ⟨_, _, _, d3, _, _⟩ := (HMC.out.later hBk.out).cells
      clear hA4
      go_upto_region 14 with (first
        | (go_at_call 31; (with_reducible refine Calls.mono (putn m.terms.length _) ?_); rintro e w7 ⟨v7, rfl, hv7, hb7⟩; obtain ⟨a7, c7, rfl⟩ := own_slice hv7; have HS7 := Lib.hid (Src.of_byt hv7); have HO7 := Lib.hid (hOk.out.below hb7); have HB7 := Lib.hid (hBk.out.trans (hb7.mono hBk.out.size)); clear hv7 hb7)
        | (at_builtin; refine wpList_app rfl _ _ rfl wA.heap.size _ _ _ rfl HO7.out a7 (putN m.terms.length) c7 rfl HS7.out (by have := HAL.out; have := EL0.out.ln; have := (putN_pos m.terms.length).2; omega) HB7.out.size ?_; intro v8 w8 ho hg ha; have ho' : Byt w8 wA.heap.size v8 (E4 m) := app_E ho (by unfold E4; rw [HA4.out]); have HB8 := Lib.hid (HB7.out.grown hg HB7.out.size (fun k hk => (HO7.out.lt k hk).1)); obtain ⟨va8, vc8, rfl⟩ := own_slice ho'; have HO8 := Lib.hid ho'; clear ho hg ha ho'))
      clear d3
      go_wp2_with fail
      go_loopw [4, 7] (fun bv' iv wr => ∃ (k : Nat) (a : Option Addr) (c : Nat), k ≤ m.terms.length ∧ iv = .int .i64 k ∧ bv' = .slice a (E4 m ++ (m.terms.take k).flatMap tx).length c ∧ Hid (Byt wr wA.heap.size (.slice a (E4 m ++ (m.terms.take k).flatMap tx).length c) (E4 m ++ (m.terms.take k).flatMap tx)) ∧ Hid (Below wA.heap.size wA wr)) (fun _ iv _ => m.terms.length - (intOf iv).toNat)
      case atStart =>
        have e : E4 m ++ (m.terms.take 0).flatMap tx = E4 m := by simp
        refine ⟨0, va8, vc8, Nat.zero_le _, by go_num, by rw [e], ?_, HB8.out⟩
        rw [e]; exact HO8.out
      case round =>
        obtain ⟨k, at', ct, hkt, rfl, rfl, hOt, hBt⟩ := hrel
        obtain ⟨T, hT'⟩ : ∃ T, E4 m ++ (m.terms.take k).flatMap tx = T := ⟨_, rfl⟩
        have HTE := Lib.hid hT'
        have hTl : T.length ≤ 530000 := by
          rw [← hT', List.length_append]
          have := EL0.out.l4
          have := EL0.out.lt
          have := flat_len (m.terms.take k) (fun t ht => EL0.out.ts t (List.mem_of_mem_take ht))
          rw [List.length_take] at this
          have : min k m.terms.length ≤ 32 := by omega
          omega
        have HTL := Lib.hid hTl
        rw [hT'] at hOt ⊢
        clear hT' hTl
        obtain ⟨_, _, _, d3, _, _⟩ := (HMC.out.later hBt.out).cells
        by_cases hlt : k < m.terms.length
        · obtain ⟨x, hx⟩ : ∃ x, m.terms[k]? = some x := ⟨_, List.getElem?_eq_getElem hlt⟩
          have hne : m.terms ≠ [] := by intro h; rw [h] at hlt; simp at hlt
          obtain ⟨b, off, hta, hrec0⟩ := (HA.out.later hBt.out).terms.resolve_left hne
          have c0 := hrec0 k x hx
          have hkl2 : (k : Int) < (m.terms.length : Int) := by omega
          have htk := Lib.hid (tx_take m.terms k x hx)
          have HXS := Lib.hid (EL0.out.ts x (List.mem_of_getElem? hx))
          have hlt2 := EL0.out.lt
          clear hrec0 hx
          subst hta
          go_wp2_with (first
            | (go_at_call 30; (with_reducible refine Calls.mono (textr_any x (by have := HXS.out; omega) _) ?_); rintro e w9 ⟨v9, rfl, hv9, hb9⟩; obtain ⟨a9, c9, rfl⟩ := own_slice hv9; have HS9 := Lib.hid (Src.of_byt hv9); have HO9 := Lib.hid (hOt.out.below hb9); have HB9 := Lib.hid (hBt.out.trans (hb9.mono hBt.out.size)); clear hv9 hb9)
            | (at_builtin; refine wpList_app rfl _ _ rfl wA.heap.size _ _ _ rfl HO9.out a9 (tx x) c9 rfl HS9.out (by have := HTL.out; have := HXS.out; have := tx_len x; omega) HB9.out.size ?_; intro v10 w10 ho hg ha; have ho' : Byt w10 wA.heap.size v10 (T ++ tx x) := app_E ho (rfl); have HB10 := Lib.hid (HB9.out.grown hg HB9.out.size (fun k hk => (HO9.out.lt k hk).1)); obtain ⟨va10, vc10, rfl⟩ := own_slice ho'; have HO10 := Lib.hid ho'; clear ho hg ha ho'))
          go_roundw
          case rel =>
            have e : T ++ tx x = E4 m ++ (m.terms.take (k + 1)).flatMap tx := by rw [htk.out, ← List.append_assoc, HTE.out]
            refine ⟨k + 1, va10, vc10, by omega, by go_num, by rw [← e, List.length_append], ?_, HB10.out⟩
            rw [← e]
            exact HO10.out
          case measure => simp [intOf]; omega
        · obtain rfl : k = m.terms.length := by omega
          have hT5 : T = E5 m := by rw [← HTE.out, List.take_length]; rfl
          have HT5 := Lib.hid hT5
          obtain ⟨_, _, _, _, d4, _⟩ := (HMC.out.later hBt.out).cells
          clear hT5
          go_upto_region 19 with (first
            | (go_at_call 30; (with_reducible refine Calls.mono (textr_any m.text (by have := EL0.out.lx; omega) _) ?_); rintro e w9 ⟨v9, rfl, hv9, hb9⟩; obtain ⟨a9, c9, rfl⟩ := own_slice hv9; have HS9 := Lib.hid (Src.of_byt hv9); have HO9 := Lib.hid (hOt.out.below hb9); have HB9 := Lib.hid (hBt.out.trans (hb9.mono hBt.out.size)); clear hv9 hb9)
            | (at_builtin; refine wpList_app rfl _ _ rfl wA.heap.size _ _ _ rfl HO9.out a9 (tx m.text) c9 rfl HS9.out (by have := HTL.out; have := EL0.out.lx; have := tx_len m.text; omega) HB9.out.size ?_; intro v10 w10 ho hg ha; have ho' : Byt w10 wA.heap.size v10 (E6 m) := app_E ho (by rw [HT5.out]; rfl); have HB10 := Lib.hid (HB9.out.grown hg HB9.out.size (fun k hk => (HO9.out.lt k hk).1)); obtain ⟨va10, vc10, rfl⟩ := own_slice ho'; have HO10 := Lib.hid ho'; clear ho hg ha ho'))
          clear d4 d3
          obtain ⟨_, _, _, _, _, d5⟩ := (HMC.out.later HB10.out).cells
          have HA10 := Lib.hid (HA.out.later HB10.out)
          go_upto_region 21 with (first
            | (go_at_call 32; (with_reducible refine Calls.mono (HS.out _ HA10.out.more) ?_); rintro e w11 ⟨v11, rfl, hv11, hb11⟩; obtain ⟨a11, c11, rfl⟩ := own_slice hv11; have HS11 := Lib.hid (Src.of_byt hv11); have HO11 := Lib.hid (HO10.out.below hb11); have HB11 := Lib.hid (HB10.out.trans (hb11.mono HB10.out.size)); clear hv11 hb11)
            | (at_builtin; refine wpList_app rfl _ _ rfl wA.heap.size _ _ _ rfl HO11.out a11 (streamN m.more).1 c11 rfl HS11.out (by have := EL0.out.l6; have := EL0.out.ls; omega) HB11.out.size ?_; intro v12 w12 ho hg ha; have ho' : Byt w12 wA.heap.size v12 (encB m) := app_E ho ((enc_E m).symm); have HB12 := Lib.hid (HB11.out.grown hg HB11.out.size (fun k hk => (HO11.out.lt k hk).1)); obtain ⟨va12, vc12, rfl⟩ := own_slice ho'; have HO12 := Lib.hid ho'; clear ho hg ha ho'))
          clear d5
          by_cases hbig : 32768 < (encB m).length
          · have hbigi : (32768 : Int) < ((encB m).length : Int) := by omega
            go_wp2_with fail
            go_ret2
            have he := HER.out
            rw [HE.out, if_pos hbig] at he
            rw [← he]
            exact ⟨_, rfl, byt_nil _ _, HBA.out.trans (HB12.out.mono HBA.out.size)⟩
          · have hbigi : ¬ (32768 : Int) < ((encB m).length : Int) := by omega
            go_wp2_with fail
            go_ret2
            have he := HER.out
            rw [HE.out, if_neg hbig] at he
            rw [← he]
            exact ⟨_, rfl, byt_base HO12.out HBA.out.size, HBA.out.trans (HB12.out.mono HBA.out.size)⟩
theorem encoder_any (m : Wire.Msg) (na : Option Addr) (nc : Nat) (ta : Option Addr) (tc : Nat) (ra : Option Addr) (rc : Nat) (w : World) (hB : MB m) (hk : m.kind < 65536) (hbd : bodies m.more ≤ 4000) (hA : MA w m na ta ra) :
    Calls Tryd.prog 14 #[.agg #[.int .u16 (m.kind : Int), .string m.chan, .slice na m.nums.length nc, .slice ta m.terms.length tc, .string m.text, .slice ra m.more.length rc]] w (EncPost m w) := by
  cases h : mayN R m with
  | true => exact encoder_yes m na nc ta tc ra rc w hB hk hbd hA h
  | false => exact encoder_no m na nc ta tc ra rc w hB hbd hA h
end Go.Proofs.YtakfhoodjcfpcaaDoor.T
