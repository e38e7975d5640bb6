/- tlv: the document's Stream. -/
import Derived.Test.YtakfhoodjcfpcaaDoorTlQ
namespace Go.Proofs.YtakfhoodjcfpcaaDoor.T
set_option linter.unusedVariables false
open Go.RowKit Tlv

theorem own_n {w : World} {base n c : Nat} {a : Option Addr} {l : List UInt8} (h : Byt w base (.slice a n c) l) : w.ownsRow base 5 1 (.slice a n c) n (l.map bv) := by
  have := h.cap.2.2.1
  subst this; exact h
theorem own_m {w : World} {base n c : Nat} {a : Option Addr} {l : List UInt8} (h : Byt w base (.slice a n c) l) (_hn : l.length = n) : w.ownsRow base 5 1 (.slice a n c) n (l.map bv) := own_n h
theorem streamr_err {L : List Rec} {w w' : World} {x : Int} (k : Nat) (h : streamN L = ([], k)) (hx : x = (k : Int)) (hb : Below w.heap.size w w') : StreamPost L w (.returned (.tuple #[.slice none 0 0, .int .i64 x])) w' := stream_err k h hx hb
set_option maxRecDepth 100000 in
set_option maxHeartbeats 2000000 in
theorem streamr_many (a : Option Addr) (cp : Nat) (L : List Rec) (w : World) (hl : 64 < L.length) (hm : L.length ≤ maxLen) : Calls Tryd.prog 32 #[.slice a L.length cp] w (StreamPost L w) := by
  have H : Hid (streamN L = ([], 3)) := by show _ = _; unfold streamN; rw [if_pos hl]
  unfold maxLen at hm
  have h64 : (64 : Int) < (L.length : Int) := by omega
  go_enter Tryd.func32, Tryd.ntmps32
  go_wp2
  go_ret2
  exact stream_err 3 H.out rfl (Below.refl _ _)
set_option maxRecDepth 100000 in
set_option maxHeartbeats 4000000 in
theorem streamr_few (a : Option Addr) (cp : Nat) (L : List Rec) (w : World) (hl : L.length ≤ 64) (hr : Recs w a L) (ht : ∀ r ∈ L, r.t < 18446744073709551616) (hbd : bodies L ≤ 4000) : Calls Tryd.prog 32 #[.slice a L.length cp] w (StreamPost L w) := by
  have HR := Lib.hid hr
  clear hr ht
  have h64 : ¬ (64 : Int) < (L.length : Int) := by omega
  have h64' : (L.length : Int) ≤ 64 := by omega
  go_enter Tryd.func32, Tryd.ntmps32
  go_wp2
  go_loopw [4] (fun iv wr => ∃ (k : Nat), k + 1 ≤ max L.length 1 ∧ iv = .int .i64 ((k : Int) + 1) ∧ Hid (Below w.heap.size w wr) ∧ Hid (∀ (i : Nat) (a b : Rec), i + 1 < k + 1 → L[i]? = some a → L[i + 1]? = some b → a.t < b.t)) (fun iv _ => L.length - (intOf iv).toNat)
  case atStart => exact ⟨0, by omega, rfl, Below.refl _ _, fun i a b h => by omega⟩
  case round =>
    obtain ⟨k, hk, rfl, hB, hris⟩ := hrel
    by_cases hlt : k + 1 < L.length
    · obtain ⟨p, hp⟩ : ∃ p, L[k]? = some p := ⟨_, List.getElem?_eq_getElem (by omega)⟩
      obtain ⟨r, hr⟩ : ∃ r, L[k + 1]? = some r := ⟨_, List.getElem?_eq_getElem hlt⟩
      have hne : L ≠ [] := by intro h; rw [h] at hlt; simp at hlt
      obtain ⟨b, off, rfl, hrec⟩ := (HR.out.below hB.out).resolve_left hne
      obtain ⟨_, _, c0, _, _, _, _⟩ := hrec k p hp
      obtain ⟨_, _, d0, _, _, _, _⟩ := hrec (k + 1) r hr
      obtain ⟨x, hx⟩ : ∃ x : Int, (p.t : Int) = x := ⟨_, rfl⟩
      obtain ⟨u, hu⟩ : ∃ u : Int, (r.t : Int) = u := ⟨_, rfl⟩
      rw [hx] at c0; rw [hu] at d0
      have hkl : (k : Int) + 1 < (L.length : Int) := by omega
      have hkl0 : (k : Int) < (L.length : Int) := by omega
      have w4 : IntKind.i64.wrap (k : Int) = (k : Int) := by simp only [IntKind.wrap, IntKind.bits, IntKind.signed]; simp; omega
      have HP := Lib.hid hp; have HRK := Lib.hid hr; have HX := Lib.hid hx; have HU := Lib.hid hu
      clear hp hr hrec hx hu
      by_cases hux : u ≤ x
      · have dx : decide (u ≤ x) = true := by simpa using hux
        have H : Hid (streamN L = ([], 50)) := by
          show _ = _
          unfold streamN
          rw [if_neg (by omega)]
          have hf : rising L = false := by
            cases hrs : rising L with
            | false => rfl
            | true => have := rising_at hrs k p r HP.out HRK.out; have := HX.out; have := HU.out; omega
          rw [if_pos hf]
        go_wp2
        go_quiet (fail)
        go_wp2
        go_ret2
        exact stream_err 50 H.out rfl (below_drewN hB.out _)
      · have dx : decide (u ≤ x) = false := by simpa using hux
        have hris' : Hid (∀ (i : Nat) (a b : Rec), i + 1 < k + 1 + 1 → L[i]? = some a → L[i + 1]? = some b → a.t < b.t) := fun i a b hi ha hb => by
          by_cases him : i = k
          · subst him
            have e1 := HP.out; have e2 := HRK.out
            rw [ha] at e1; rw [hb] at e2; cases e1; cases e2
            have := HX.out; have := HU.out; omega
          · exact hris.out i a b (by omega) ha hb
        go_wp2
        go_quiet (fail)
        go_wp2
        go_roundw
        case rel => exact ⟨k + 1, by omega, by go_num, below_drewN hB.out _, hris'⟩
        case measure => simp [intOf]; omega
    · have hR : Hid (rising L = true) := rising_of fun i a b ha hb => hris.out i a b (by have := (List.getElem?_eq_some_iff.1 hb).1; omega) ha hb
      have hkl : ¬ (k : Int) + 1 < (L.length : Int) := by omega
      have HB0 := Lib.hid hB.out
      clear hris hB hk
      go_wp2
      go_loopw [5, 6] (fun v iv wr => ∃ k : Nat, k ≤ L.length ∧ iv = .int .i64 k ∧ Hid (Byt wr w.heap.size v (encAll (L.take k))) ∧ Hid ((encAll (L.take k)).length ≤ 32768) ∧ Hid (Below w.heap.size w wr)) (fun _ iv _ => L.length - (intOf iv).toNat)
      case atStart => exact ⟨0, Nat.zero_le _, rfl, by simp [Hid, encAll]; exact byt_nil _ _, by simp [Hid, encAll], HB0.out⟩
      case round =>
        obtain ⟨k, hk, rfl, hBy, hle, hB⟩ := hrel
        obtain ⟨va, vc, rfl⟩ := own_slice hBy.out
        have hBs := hB.out.size
        by_cases hlt : k < L.length
        · obtain ⟨r, hr⟩ : ∃ r, L[k]? = some r := ⟨_, List.getElem?_eq_getElem hlt⟩
          have hne : L ≠ [] := by intro h; rw [h] at hlt; simp at hlt
          obtain ⟨b, off, rfl, hrec⟩ := HR.out.resolve_left hne
          obtain ⟨ai, ci, c0, c1, cs, _, _⟩ := hrec k r hr
          have hrb : r.body.length ≤ 4000 := by have := bodies_take L k r hr; have := bodies_mono L (k + 1); omega
          have hnx := encAll_take L k r hr
          have hall : (encAll (L.take (k + 1))).length ≤ 4000 + 18 * 64 := by
            have h1 := (encAll_len (L.take (k + 1))).2
            have h2 := bodies_mono L (k + 1)
            rw [List.length_take] at h1
            omega
          have HALL : Hid ((encAll (L.take (k + 1))).length ≤ 32768) := by show _ ≤ _; omega
          clear hall
          obtain ⟨l0, hl0⟩ : ∃ l0, encAll (L.take k) = l0 := ⟨_, rfl⟩
          rw [hl0] at hBy hle hnx ⊢
          obtain ⟨l3, hl3⟩ : ∃ l3, encAll (L.take (k + 1)) = l3 := ⟨_, rfl⟩
          rw [hl3] at hnx HALL
          obtain ⟨x, hx⟩ : ∃ x : Int, (r.t : Int) = x := ⟨_, rfl⟩
          obtain ⟨z, hz⟩ : ∃ z : Int, (r.body.length : Int) = z := ⟨_, rfl⟩
          have hx0 : 0 ≤ x := by omega
          have hz0 : 0 ≤ z := by omega
          have hz1 : z ≤ 4000 := by omega
          have hwz : IntKind.u64.wrap z = z := by simp only [IntKind.wrap, IntKind.bits, IntKind.signed]; simp; omega
          rw [hx] at c0
          have hxt : x.toNat = r.t := by omega
          have hzt : z.toNat = r.body.length := by omega
          rw [← hxt, ← hzt] at hnx
          have hxl := (putN_pos x.toNat).2
          have hzl := (putN_pos z.toNat).2
          have PX : Hid (∀ w, Calls Tryd.prog 31 #[.int .u64 x] w (NewPost w (putN x.toNat))) := fun w => putr_any x hx0 w
          have PZ : Hid (∀ w, Calls Tryd.prog 31 #[.int .u64 z] w (NewPost w (putN z.toNat))) := fun w => putr_any z hz0 w
          generalize putN x.toNat = px at hnx hxl PX
          generalize putN z.toNat = pz at hnx hzl PZ
          obtain ⟨bd, hbd⟩ : ∃ bd, r.body = bd := ⟨_, rfl⟩
          rw [hbd] at hz c1 cs hrb hnx
          obtain ⟨n0, hn0⟩ : ∃ n0, l0.length = n0 := ⟨_, rfl⟩
          obtain ⟨n1, hn1⟩ : ∃ n1, (l0 ++ px).length = n1 := ⟨_, rfl⟩
          obtain ⟨n2, hn2⟩ : ∃ n2, (l0 ++ px ++ pz).length = n2 := ⟨_, rfl⟩
          obtain ⟨n3, hn3⟩ : ∃ n3, (l0 ++ px ++ pz ++ bd).length = n3 := ⟨_, rfl⟩
          have hl0' := hle.out
          have e1 : n1 = n0 + px.length := by rw [← hn1, ← hn0, List.length_append]
          have e2 : n2 = n1 + pz.length := by rw [← hn2, ← hn1, List.length_append]
          have e3 : n3 = n2 + bd.length := by rw [← hn3, ← hn2, List.length_append]
          have hn3b : n3 ≤ 32768 := by rw [← hn3, ← hnx]; exact HALL.out
          have hn3i : ¬ (32768 : Int) < (n3 : Int) := by omega
          have L0 : Hid (n0 + px.length ≤ 140737488355328) := by show _ ≤ _; omega
          have L1 : Hid (n1 + pz.length ≤ 140737488355328) := by show _ ≤ _; omega
          have L2 : Hid (n2 + bd.length ≤ 140737488355328) := by show _ ≤ _; omega
          have hkl : (k : Int) < (L.length : Int) := by omega
          have HNX := Lib.hid hnx; have HCS := Lib.hid cs; have HN1 := Lib.hid hn1; have HN2 := Lib.hid hn2; have HN3 := Lib.hid hn3; have HL3 := Lib.hid hl3
          have hzb : (bd.length : Int) = z := hz
          have B0 : Hid (Byt wr w.heap.size (.slice va n0 vc) l0) := by
            have h := hBy.out
            rw [hn0] at h
            exact h
          rw [hn0]
          have C0 := Lib.hid c0; have C1 := Lib.hid c1
          have BEL0 := Lib.hid hB.out
          clear hr hrec hnx cs hx hz hxt hzt hbd hn1 hn2 hn3 hl0' e1 e2 e3 hl3 hxl hzl hrb hn3b hBy hl0 hn0 c0 c1 hB hle HALL
          have c0 := cell_later BEL0.out C0.out
          have c1' := cell_later BEL0.out C1.out
          go_wp2_with (first
            | (go_at_call 31; (with_reducible refine Calls.mono (PX.out _) ?_); rintro e w1 ⟨v1, rfl, hp1, hb1⟩; obtain ⟨q1, t1, rfl⟩ := own_slice hp1; have S1 := Lib.hid (Src.of_byt hp1); have BEL1 := Lib.hid (BEL0.out.trans (hb1.mono hBs)); have B1 := Lib.hid (B0.out.below hb1); clear hp1 hb1)
            | (at_builtin; refine wpList_app rfl _ _ rfl w.heap.size (.slice va n0 vc) n0 (l0.map bv) rfl (own_n B1.out) q1 px t1 rfl S1.out L0.out BEL1.out.size ?_; intro v2 w2 ho2 hg2 ha2; have HB2 : Hid (Byt w2 w.heap.size v2 (l0 ++ px)) := byt_of' ho2 (by simp); obtain ⟨q2, t2, rfl⟩ := own_slice' HB2.out HN1.out; have BEL2 := Lib.hid (BEL1.out.grown hg2 BEL1.out.size (fun g hg => ((own_n B1.out).lt g hg).1)); have d1 := cell_later BEL2.out C1.out; clear ho2 hg2 ha2)
            | (go_at_call 31; (with_reducible refine Calls.mono (PZ.out _) ?_); rintro e w3 ⟨v3, rfl, hp3, hb3⟩; obtain ⟨q3, t3, rfl⟩ := own_slice hp3; have S3 := Lib.hid (Src.of_byt hp3); have BEL3 := Lib.hid (BEL2.out.trans (hb3.mono BEL2.out.size)); have B3 := Lib.hid (HB2.out.below hb3); clear hp3 hb3)
            | (at_builtin; refine wpList_app rfl _ _ rfl w.heap.size (.slice q2 n1 t2) n1 ((l0 ++ px).map bv) rfl (own_m B3.out HN1.out) q3 pz t3 rfl S3.out L1.out BEL3.out.size ?_; intro v4 w4 ho4 hg4 ha4; have HB4 : Hid (Byt w4 w.heap.size v4 (l0 ++ px ++ pz)) := byt_of' ho4 (by simp); obtain ⟨q4, t4, rfl⟩ := own_slice' HB4.out HN2.out; have BEL4 := Lib.hid (BEL3.out.grown hg4 BEL3.out.size (fun g hg => ((own_m B3.out HN1.out).lt g hg).1)); have d1 := cell_later BEL4.out C1.out; clear ho4 hg4 ha4)
            | (at_builtin; refine wpList_app rfl _ _ rfl w.heap.size (.slice q4 n2 t4) n2 ((l0 ++ px ++ pz).map bv) rfl (own_m HB4.out HN2.out) ai bd ci rfl (HCS.out.below BEL4.out) L2.out BEL4.out.size ?_; intro v5 w5 ho5 hg5 ha5; have HB5 : Hid (Byt w5 w.heap.size v5 (l0 ++ px ++ pz ++ bd)) := byt_of' ho5 (by simp); obtain ⟨q5, t5, rfl⟩ := own_slice' HB5.out HN3.out; have BEL5 := Lib.hid (BEL4.out.grown hg5 BEL4.out.size (fun g hg => ((own_m HB4.out HN2.out).lt g hg).1)); clear ho5 hg5 ha5))
          go_roundw
          case rel =>
            refine ⟨k + 1, by omega, by go_num, ?_, ?_, BEL5.out⟩
            · have h := HB5.out
              rw [← HNX.out, ← HL3.out] at h
              exact h
            · show _ ≤ _
              rw [HL3.out, HNX.out, HN3.out]; omega
          case measure => simp [intOf]; omega
        · obtain rfl : k = L.length := by omega
          have hBy' : Hid (Byt wr w.heap.size (.slice va (encAll (L.take L.length)).length vc) (encAll L)) := by have := hBy.out; rw [List.take_length] at this ⊢; exact this
          have H : Hid (streamN L = (encAll L, 0)) := by
            have := hle.out
            rw [List.take_length] at this
            show _ = _
            unfold streamN
            rw [if_neg (by omega), hR.out, if_neg (by decide), if_neg (by omega)]
          have hkk : ¬ (L.length : Int) < (L.length : Int) := by omega
          rw [List.take_length] at hBy' ⊢
          clear hBy hle
          generalize (encAll L).length = n at hBy' ⊢
          go_wp2
          go_ret2
          refine ⟨.slice va n vc, ?_, ?_, hB.out⟩
          · rw [H.out]; rfl
          · rw [H.out]; exact hBy'.out
end Go.Proofs.YtakfhoodjcfpcaaDoor.T
