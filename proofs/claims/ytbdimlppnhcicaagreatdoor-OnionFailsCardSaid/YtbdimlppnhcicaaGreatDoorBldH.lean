/- term: the document's Joint, Bound, Agree. -/
import Derived.Test.YtbdimlppnhcicaaGreatDoorBldG
import Derived.Deep.CutRange
import Derived.BigRegion
namespace Go.Proofs.YtbdimlppnhcicaaGreatDoor
set_option linter.unusedVariables false
open Go.RowKit
set_option maxRecDepth 100000 in
set_option maxHeartbeats 4000000 in
theorem ragree_bad (p t : ByteArray) (w : World) (hm : t.size ≤ maxLen) (hpm : p.size ≤ maxLen) (h : readP t.data.toList = none ∨ rt p = false) : Calls Tryz.prog 180 #[.string p, .string t] w fun e w' => e = .returned errTerm ∧ Below w.heap.size w w' := by
  have HO := Lib.hid (ropen_any t w hm)
  have HA := Lib.hid (fun W => rright_any p W hpm)
  unfold errTerm
  cases hrp : rightB p.data.toList with
  | true =>
    rw [hrp] at HA
    have hx : readP t.data.toList = none := h.resolve_right (by unfold rt; rw [hrp]; decide)
    rw [hx] at HO
    clear h hx hrp
    go_enter Tryz.func180, Tryz.ntmps180
    go_upto_region 2 with (go_at_call 124; (with_reducible refine Calls.mono HO.out ?_); rintro e w1 ⟨hb, hno, _⟩; obtain rfl := hno rfl; have B1 := Lib.hid hb; clear hb hno)
    have B2 : Hid (Below w.heap.size w (w1.alloc (.cells #[.int .u8 0, .int .i64 0, .string ⟨#[]⟩, .slice none 0 0] 192))) := B1.out.alloc B1.out.size _
    have CX : Hid ((w1.alloc (.cells #[.int .u8 0, .int .i64 0, .string ⟨#[]⟩, .slice none 0 0] 192)).heap[w1.heap.size]? = some (.cells #[.int .u8 0, .int .i64 0, .string ⟨#[]⟩, .slice none 0 0] 192 (0, 0))) := heap_alloc_at w1 _
    generalize w1.alloc (.cells #[.int .u8 0, .int .i64 0, .string ⟨#[]⟩, .slice none 0 0] 192) = w2 at B2 CX ⊢
    obtain ⟨xb, hxb⟩ : ∃ xb, w1.heap.size = xb := ⟨_, rfl⟩
    rw [hxb] at CX ⊢
    clear hxb
    have x_0 : w2.cell? ⟨xb, 0, none⟩ = some (.int .u8 0) := by simp [World.cell?, CX.out]
    go_wp2_with (go_at_call 70; (with_reducible refine Calls.mono (HA.out _) ?_); rintro e w3 ⟨rfl, hb⟩; have B3 : Hid (Below w.heap.size w w3) := B2.out.trans (hb.mono B2.out.size); have y0 := cell_later hb x_0; clear hb)
    go_ret2
    exact ⟨rfl, B3.out⟩
  | false =>
    rw [hrp] at HA
    clear h hrp
    cases hx : readP t.data.toList with
    | none =>
      rw [hx] at HO
      clear hx
      go_enter Tryz.func180, Tryz.ntmps180
      go_upto_region 2 with (go_at_call 124; (with_reducible refine Calls.mono HO.out ?_); rintro e w1 ⟨hb, hno, _⟩; obtain rfl := hno rfl; have B1 := Lib.hid hb; clear hb hno)
      have B2 : Hid (Below w.heap.size w (w1.alloc (.cells #[.int .u8 0, .int .i64 0, .string ⟨#[]⟩, .slice none 0 0] 192))) := B1.out.alloc B1.out.size _
      have CX : Hid ((w1.alloc (.cells #[.int .u8 0, .int .i64 0, .string ⟨#[]⟩, .slice none 0 0] 192)).heap[w1.heap.size]? = some (.cells #[.int .u8 0, .int .i64 0, .string ⟨#[]⟩, .slice none 0 0] 192 (0, 0))) := heap_alloc_at w1 _
      generalize w1.alloc (.cells #[.int .u8 0, .int .i64 0, .string ⟨#[]⟩, .slice none 0 0] 192) = w2 at B2 CX ⊢
      obtain ⟨xb, hxb⟩ : ∃ xb, w1.heap.size = xb := ⟨_, rfl⟩
      rw [hxb] at CX ⊢
      clear hxb
      have x_0 : w2.cell? ⟨xb, 0, none⟩ = some (.int .u8 0) := by simp [World.cell?, CX.out]
      go_wp2_with (go_at_call 70; (with_reducible refine Calls.mono (HA.out _) ?_); rintro e w3 ⟨rfl, hb⟩; have B3 : Hid (Below w.heap.size w w3) := B2.out.trans (hb.mono B2.out.size); have y0 := cell_later hb x_0; clear hb)
      go_ret2
      exact ⟨rfl, B3.out⟩
    | some x =>
      rw [hx] at HO
      obtain ⟨oz, hoz⟩ : ∃ oz : Int, (x.op.toNat : Int) = oz := ⟨_, rfl⟩
      clear hx
      go_enter Tryz.func180, Tryz.ntmps180
      go_upto_region 2 with (go_at_call 124; (with_reducible refine Calls.mono HO.out ?_); rintro e w1 ⟨hb, _, hyes⟩; obtain ⟨u, ko, km, kc, rfl, _, hK⟩ := hyes x rfl; have B1 := Lib.hid hb; clear hb hyes hK)
      have B2 : Hid (Below w.heap.size w (w1.alloc (.cells #[.int .u8 oz, .int .i64 x.n, .string u, .slice ko km kc] 192))) := B1.out.alloc B1.out.size _
      have CX : Hid ((w1.alloc (.cells #[.int .u8 oz, .int .i64 x.n, .string u, .slice ko km kc] 192)).heap[w1.heap.size]? = some (.cells #[.int .u8 oz, .int .i64 x.n, .string u, .slice ko km kc] 192 (0, 0))) := heap_alloc_at w1 _
      generalize w1.alloc (.cells #[.int .u8 oz, .int .i64 x.n, .string u, .slice ko km kc] 192) = w2 at B2 CX ⊢
      obtain ⟨xb, hxb⟩ : ∃ xb, w1.heap.size = xb := ⟨_, rfl⟩
      rw [hxb] at CX ⊢
      clear hxb
      have x_0 : w2.cell? ⟨xb, 0, none⟩ = some (.int .u8 oz) := by simp [World.cell?, CX.out]
      go_wp2_with (go_at_call 70; (with_reducible refine Calls.mono (HA.out _) ?_); rintro e w3 ⟨rfl, hb⟩; have B3 : Hid (Below w.heap.size w w3) := B2.out.trans (hb.mono B2.out.size); have y0 := cell_later hb x_0; clear hb)
      go_ret2
      exact ⟨rfl, B3.out⟩
set_option maxRecDepth 100000 in
set_option maxHeartbeats 4000000 in
theorem ragree_other (p t : ByteArray) (w : World) (x : Sh) (hm : t.size ≤ maxLen) (hpm : p.size ≤ maxLen) (hrp : rt p = true) (hx : readP t.data.toList = some x) (h : x.op ≠ 80) : Calls Tryz.prog 180 #[.string p, .string t] w fun e w' => e = .returned errTerm ∧ Below w.heap.size w w' := by
  have HO := Lib.hid (ropen_any t w hm)
  have HA := Lib.hid (fun W => rright_any p W hpm)
  rw [show rightB p.data.toList = true from hrp] at HA
  unfold errTerm
  rw [hx] at HO
  obtain ⟨oz, hoz⟩ : ∃ oz : Int, (x.op.toNat : Int) = oz := ⟨_, rfl⟩
  have ne : ∀ k : UInt8, x.op ≠ k → (x.op.toNat : Int) ≠ (k.toNat : Int) := fun k h h' => h (UInt8.toNat_inj.mp (by omega))
  have b1 : (oz != 80) = true := by rw [bne_iff_ne, ← hoz]; exact ne 80 h
  clear ne h hx hrp
  go_enter Tryz.func180, Tryz.ntmps180
  go_upto_region 2 with (go_at_call 124; (with_reducible refine Calls.mono HO.out ?_); rintro e w1 ⟨hb, _, hyes⟩; obtain ⟨u, ko, km, kc, rfl, _, hK⟩ := hyes x rfl; have B1 := Lib.hid hb; clear hb hyes hK)
  have B2 : Hid (Below w.heap.size w (w1.alloc (.cells #[.int .u8 oz, .int .i64 x.n, .string u, .slice ko km kc] 192))) := B1.out.alloc B1.out.size _
  have CX : Hid ((w1.alloc (.cells #[.int .u8 oz, .int .i64 x.n, .string u, .slice ko km kc] 192)).heap[w1.heap.size]? = some (.cells #[.int .u8 oz, .int .i64 x.n, .string u, .slice ko km kc] 192 (0, 0))) := heap_alloc_at w1 _
  generalize w1.alloc (.cells #[.int .u8 oz, .int .i64 x.n, .string u, .slice ko km kc] 192) = w2 at B2 CX ⊢
  obtain ⟨xb, hxb⟩ : ∃ xb, w1.heap.size = xb := ⟨_, rfl⟩
  rw [hxb] at CX ⊢
  clear hxb
  have x_0 : w2.cell? ⟨xb, 0, none⟩ = some (.int .u8 oz) := by simp [World.cell?, CX.out]
  go_wp2_with (go_at_call 70; (with_reducible refine Calls.mono (HA.out _) ?_); rintro e w3 ⟨rfl, hb⟩; have B3 : Hid (Below w.heap.size w w3) := B2.out.trans (hb.mono B2.out.size); have y0 := cell_later hb x_0; clear hb)
  go_ret2
  exact ⟨rfl, B3.out⟩
set_option maxRecDepth 100000 in
set_option maxHeartbeats 4000000 in
theorem ragree_80 (p t : ByteArray) (w : World) (x : Sh) (hm : t.size ≤ maxLen) (hpm : p.size ≤ maxLen) (hrp : rt p = true) (hx : readP t.data.toList = some x) (h : x.op = 80) : Calls Tryz.prog 180 #[.string p, .string t] w fun e w' => e = .returned (agreeW p ⟨(nth x.kids 0).toArray⟩) ∧ Below w.heap.size w w' := by
  have HO := Lib.hid (ropen_any t w hm)
  have HA := Lib.hid (fun W => rright_any p W hpm)
  rw [show rightB p.data.toList = true from hrp] at HA
  rw [hx] at HO
  have hz : (x.op.toNat : Int) = 80 := by rw [h]; rfl
  have h2 := read_arity hx 1 (by rw [h]; rfl)
  have HX := Lib.hid hx
  clear hx h hrp
  go_enter Tryz.func180, Tryz.ntmps180
  go_upto_region 2 with (go_at_call 124; (with_reducible refine Calls.mono HO.out ?_); rintro e w1 ⟨hb, _, hyes⟩; obtain ⟨u, ko, km, kc, rfl, _, hK⟩ := hyes x rfl; have B1 := Lib.hid hb; have K1 := Lib.hid hK; clear hb hyes hK)
  obtain ⟨k0, g, cap', e0, ev, c0⟩ := one_kid K1.out h2
  cases ev
  have B2 : Hid (Below w.heap.size w (w1.alloc (.cells #[.int .u8 80, .int .i64 x.n, .string u, .slice (some ⟨g, 0, none⟩) 1 kc] 192))) := B1.out.alloc B1.out.size _
  have CX : Hid ((w1.alloc (.cells #[.int .u8 80, .int .i64 x.n, .string u, .slice (some ⟨g, 0, none⟩) 1 kc] 192)).heap[w1.heap.size]? = some (.cells #[.int .u8 80, .int .i64 x.n, .string u, .slice (some ⟨g, 0, none⟩) 1 kc] 192 (0, 0))) := heap_alloc_at w1 _
  have d0 := cell_later (below_new' w1 (.cells #[.int .u8 80, .int .i64 x.n, .string u, .slice (some ⟨g, 0, none⟩) 1 kc] 192)) c0
  generalize w1.alloc (.cells #[.int .u8 80, .int .i64 x.n, .string u, .slice (some ⟨g, 0, none⟩) 1 kc] 192) = w2 at B2 CX d0 ⊢
  obtain ⟨xb, hxb⟩ : ∃ xb, w1.heap.size = xb := ⟨_, rfl⟩
  rw [hxb] at CX ⊢
  have hkk := read_kids HX.out _ (nth_mem (i := 0) (by omega))
  rw [← e0, list_size] at hkk
  have hk0 : k0.size ≤ maxLen := Nat.le_trans (right_size hkk.1) (by unfold maxLen; omega)
  have HE : Hid (agreeW p ⟨(nth x.kids 0).toArray⟩ = agreeW p k0) := by
    show _ = _
    rw [← e0]
  have HB : Hid (∀ a b : ByteArray, a.size ≤ maxLen → b.size ≤ maxLen → ∀ W, Calls Tryz.prog 74 #[.int .u8 88, .string a, .string b] W fun e w' => e = .returned (buildV ⟨#[88]⟩ [a, b]) ∧ Below W.heap.size W w') := fun a b ha hb W => rtwo_any 88 a b W ha hb
  clear hxb c0 K1 e0 hkk
  have x_0 : w2.cell? ⟨xb, 0, none⟩ = some (.int .u8 80) := by simp [World.cell?, CX.out]
  have x_3 : w2.cell? ⟨xb, 3, none⟩ = some (.slice (some ⟨g, 0, none⟩) 1 kc) := by simp [World.cell?, CX.out]
  cases q : Op.bytesLess k0.toList p.toList with
  | true =>
    have HC := Lib.hid (HB.out k0 p hk0 hpm)
    obtain ⟨s, n, hs⟩ := buildV_tuple ⟨#[88]⟩ [k0, p]
    have HV : Hid (agreeW p ⟨(nth x.kids 0).toArray⟩ = .tuple #[.string s, .int .i64 n]) := by show _ = _; rw [HE.out]; unfold agreeW; rw [if_pos q, hs]
    rw [hs] at HC
    have q2 : (Op.bytesLess p.toList k0.toList || p.toList == k0.toList) = false := by
      cases h1 : Op.bytesLess p.toList k0.toList with
      | true => exact (bytesLess_asymm _ _ q h1).elim
      | false =>
        rw [Bool.false_or]
        apply toList_ne
        intro e; rw [e] at q; exact bytesLess_asymm _ _ q q
    clear HB hs
    go_wp2_with (go_at_call 70; (with_reducible refine Calls.mono (HA.out _) ?_); rintro e w3 ⟨rfl, hb⟩; have B3 : Hid (Below w.heap.size w w3) := B2.out.trans (hb.mono B2.out.size); have y_0 := cell_later hb x_0; have y_3 := cell_later hb x_3; have y_k := cell_later hb d0; clear hb)
    go_quiet (fail)
    have B4 : Hid (Below w.heap.size w (w3.drewN nq)) := below_drewN B3.out nq
    go_wp2_with (go_at_call 74; (with_reducible refine Calls.mono (HC.out _) ?_); rintro e w5 ⟨rfl, hb⟩; have B5 : Hid (Below w.heap.size w w5) := B4.out.trans (hb.mono B4.out.size); clear hb)
    go_ret2
    exact ⟨by rw [HV.out]; rfl, B5.out⟩
  | false =>
    have HC := Lib.hid (HB.out p k0 hpm hk0)
    obtain ⟨s, n, hs⟩ := buildV_tuple ⟨#[88]⟩ [p, k0]
    have HV : Hid (agreeW p ⟨(nth x.kids 0).toArray⟩ = .tuple #[.string s, .int .i64 n]) := by show _ = _; rw [HE.out]; unfold agreeW; rw [if_neg (by rw [q]; decide), hs]
    rw [hs] at HC
    have q2 : (Op.bytesLess p.toList k0.toList || p.toList == k0.toList) = true := by
      cases h1 : Op.bytesLess p.toList k0.toList with
      | true => rfl
      | false => rw [bytesLess_tri _ _ h1 q]; simp
    clear HB hs
    go_wp2_with (go_at_call 70; (with_reducible refine Calls.mono (HA.out _) ?_); rintro e w3 ⟨rfl, hb⟩; have B3 : Hid (Below w.heap.size w w3) := B2.out.trans (hb.mono B2.out.size); have y_0 := cell_later hb x_0; have y_3 := cell_later hb x_3; have y_k := cell_later hb d0; clear hb)
    go_quiet (fail)
    have B4 : Hid (Below w.heap.size w (w3.drewN nq)) := below_drewN B3.out nq
    go_wp2_with (go_at_call 74; (with_reducible refine Calls.mono (HC.out _) ?_); rintro e w5 ⟨rfl, hb⟩; have B5 : Hid (Below w.heap.size w w5) := B4.out.trans (hb.mono B4.out.size); clear hb)
    go_ret2
    exact ⟨by rw [HV.out]; rfl, B5.out⟩
theorem ragree_any (p t : ByteArray) (w : World) (hm : t.size ≤ maxLen) (hpm : p.size ≤ maxLen) : Calls Tryz.prog 180 #[.string p, .string t] w fun e w' => e = .returned (agreeV p t) ∧ Below w.heap.size w w' := by
  unfold agreeV
  cases hx : readP t.data.toList with
  | none => exact ragree_bad p t w hm hpm (.inl hx)
  | some x =>
    cases hrp : rt p with
    | false =>
      have e : (if x.op = 80 then agreeW p ⟨(nth x.kids 0).toArray⟩ else errTerm) = errTerm := by
        split
        · unfold agreeW
          split
          · exact buildV_wrong ⟨p, by simp, hrp⟩
          · exact buildV_wrong ⟨p, by simp, hrp⟩
        · rfl
      simp only [e]
      exact ragree_bad p t w hm hpm (.inr hrp)
    | true =>
      by_cases h : x.op = 80
      · simp only [h, if_true]
        exact ragree_80 p t w x hm hpm hrp hx h
      · simp only [h, if_false]
        exact ragree_other p t w x hm hpm hrp hx h
end Go.Proofs.YtbdimlppnhcicaaGreatDoor
