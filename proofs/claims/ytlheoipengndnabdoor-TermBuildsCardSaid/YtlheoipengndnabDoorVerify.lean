/- term: Verify. -/
import Derived.Test.YtlheoipengndnabDoorUnbox
namespace Go.Proofs.YtlheoipengndnabDoor
set_option linter.unusedVariables false
open Go.RowKit
set_option maxRecDepth 100000 in
set_option maxHeartbeats 4000000 in
theorem verify_none (p q t : ByteArray) (w : World) (hm : t.size ≤ maxLen) (hL : LibOk w) (hx : readP t.data.toList = none) : Calls Tryd.prog 30 #[.string p, .string q, .string t] w fun e w' => e = .returned (.bool false) ∧ Below w.heap.size w w' := by
  have HO := Lib.hid (open_any t w hm hL)
  rw [hx] at HO
  clear hx hL
  go_enter Tryd.func30, Tryd.ntmps30
  go_upto_region 2 with (go_at_call 34; (with_reducible refine Calls.mono HO.out ?_); rintro e w1 ⟨hb, hno, _⟩; obtain rfl := hno rfl; have B1 := Lib.hid hb; clear hb hno)
  have B2 : Hid (Below w.heap.size w (w1.alloc (.cells #[.int .u8 0, .int .i64 0, .string ⟨#[]⟩, .slice none 0 0] 36))) := B1.out.alloc B1.out.size _
  have CX : Hid ((w1.alloc (.cells #[.int .u8 0, .int .i64 0, .string ⟨#[]⟩, .slice none 0 0] 36)).heap[w1.heap.size]? = some (.cells #[.int .u8 0, .int .i64 0, .string ⟨#[]⟩, .slice none 0 0] 36 (0, 0))) := heap_alloc_at w1 _
  generalize w1.alloc (.cells #[.int .u8 0, .int .i64 0, .string ⟨#[]⟩, .slice none 0 0] 36) = w2 at B2 CX ⊢
  obtain ⟨xb, hxb⟩ : ∃ xb, w1.heap.size = xb := ⟨_, rfl⟩
  rw [hxb] at CX ⊢
  clear hxb
  have x_0 : w2.cell? ⟨xb, 0, none⟩ = some (.int .u8 0) := by simp [World.cell?, CX.out]
  go_wp2_with fail
  go_ret
  exact ⟨rfl, B2.out⟩
set_option maxRecDepth 100000 in
set_option maxHeartbeats 4000000 in
theorem verify_other (p q t : ByteArray) (w : World) (x : Sh) (hm : t.size ≤ maxLen) (hL : LibOk w) (hx : readP t.data.toList = some x) (h : x.op ≠ 83) : Calls Tryd.prog 30 #[.string p, .string q, .string t] w fun e w' => e = .returned (.bool false) ∧ Below w.heap.size w w' := by
  have HO := Lib.hid (open_any t w hm hL)
  rw [hx] at HO
  obtain ⟨oz, hoz⟩ : ∃ oz : Int, (x.op.toNat : Int) = oz := ⟨_, rfl⟩
  have ne : ∀ k : UInt8, x.op ≠ k → (x.op.toNat : Int) ≠ (k.toNat : Int) := fun k h h' => h (UInt8.toNat_inj.mp (by omega))
  have b1 : (oz == 83) = false := beq_eq_false_iff_ne.mpr (by rw [← hoz]; exact ne 83 h)
  clear ne h hx hL
  go_enter Tryd.func30, Tryd.ntmps30
  go_upto_region 2 with (go_at_call 34; (with_reducible refine Calls.mono HO.out ?_); rintro e w1 ⟨hb, _, hyes⟩; obtain ⟨u, ko, km, kc, rfl, _, hK⟩ := hyes x rfl; have B1 := Lib.hid hb; clear hb hyes hK)
  have B2 : Hid (Below w.heap.size w (w1.alloc (.cells #[.int .u8 oz, .int .i64 x.n, .string u, .slice ko km kc] 36))) := B1.out.alloc B1.out.size _
  have CX : Hid ((w1.alloc (.cells #[.int .u8 oz, .int .i64 x.n, .string u, .slice ko km kc] 36)).heap[w1.heap.size]? = some (.cells #[.int .u8 oz, .int .i64 x.n, .string u, .slice ko km kc] 36 (0, 0))) := heap_alloc_at w1 _
  generalize w1.alloc (.cells #[.int .u8 oz, .int .i64 x.n, .string u, .slice ko km kc] 36) = w2 at B2 CX ⊢
  obtain ⟨xb, hxb⟩ : ∃ xb, w1.heap.size = xb := ⟨_, rfl⟩
  rw [hxb] at CX ⊢
  clear hxb
  have x_0 : w2.cell? ⟨xb, 0, none⟩ = some (.int .u8 oz) := by simp [World.cell?, CX.out]
  go_wp2_with fail
  go_ret
  exact ⟨rfl, B2.out⟩
set_option maxRecDepth 100000 in
set_option maxHeartbeats 4000000 in
theorem verify_83 (p q t : ByteArray) (w : World) (x : Sh) (hm : t.size ≤ maxLen) (hL : LibOk w) (hx : readP t.data.toList = some x) (h : x.op = 83) : Calls Tryd.prog 30 #[.string p, .string q, .string t] w fun e w' => e = .returned (.bool (decide (nth x.kids 1 = q.data.toList ∧ keyB (nth x.kids 0) = p.data.toList))) ∧ Below w.heap.size w w' := by
  have HO := Lib.hid (open_any t w hm hL)
  rw [hx] at HO
  have hz : (x.op.toNat : Int) = 83 := by rw [h]; rfl
  have h2 := read_arity hx 2 (by rw [h]; rfl)
  have HX := Lib.hid hx
  have HL := Lib.hid hL
  clear hx hL h
  go_enter Tryd.func30, Tryd.ntmps30
  go_upto_region 2 with (go_at_call 34; (with_reducible refine Calls.mono HO.out ?_); rintro e w1 ⟨hb, _, hyes⟩; obtain ⟨u, ko, km, kc, rfl, _, hK⟩ := hyes x rfl; have B1 := Lib.hid hb; have K1 := Lib.hid hK; clear hb hyes hK)
  obtain ⟨k0, k1, g, cap', e0, e1, ev, c0, c1⟩ := two_kids K1.out h2
  cases ev
  have HE : Hid (decide (nth x.kids 1 = q.data.toList ∧ keyB (nth x.kids 0) = p.data.toList) = decide (k1 = q ∧ keyS k0 = p)) := by
    show _ = _
    rw [← e0, ← e1]
    refine decide_eq_decide.2 (and_congr ⟨fun e => ByteArray.ext (Array.toList_inj.1 e), fun e => by rw [e]⟩ ⟨fun e => ?_, fun e => ?_⟩)
    · unfold keyS; rw [e]
    · rw [← e]; rfl
  have hkk := read_kids HX.out _ (nth_mem (i := 0) (by omega))
  rw [← e0] at hkk
  have HKC : Hid (∀ W, LibOk W → Calls Tryd.prog 26 #[.string k0] W fun e w' => e = .returned (.string (keyS k0)) ∧ Below W.heap.size W w') := fun W hW => key_any k0.size k0 W (Nat.le_refl _) hkk.1 hW
  have B2 : Hid (Below w.heap.size w (w1.alloc (.cells #[.int .u8 83, .int .i64 x.n, .string u, .slice (some ⟨g, 0, none⟩) 2 kc] 36))) := B1.out.alloc B1.out.size _
  have CX : Hid ((w1.alloc (.cells #[.int .u8 83, .int .i64 x.n, .string u, .slice (some ⟨g, 0, none⟩) 2 kc] 36)).heap[w1.heap.size]? = some (.cells #[.int .u8 83, .int .i64 x.n, .string u, .slice (some ⟨g, 0, none⟩) 2 kc] 36 (0, 0))) := heap_alloc_at w1 _
  have d0 := cell_later (below_new' w1 (.cells #[.int .u8 83, .int .i64 x.n, .string u, .slice (some ⟨g, 0, none⟩) 2 kc] 36)) c0
  have d1 := cell_later (below_new' w1 (.cells #[.int .u8 83, .int .i64 x.n, .string u, .slice (some ⟨g, 0, none⟩) 2 kc] 36)) c1
  generalize w1.alloc (.cells #[.int .u8 83, .int .i64 x.n, .string u, .slice (some ⟨g, 0, none⟩) 2 kc] 36) = w2 at B2 CX d0 d1 ⊢
  obtain ⟨xb, hxb⟩ : ∃ xb, w1.heap.size = xb := ⟨_, rfl⟩
  rw [hxb] at CX ⊢
  clear hxb c0 c1 K1 e0 e1
  have x_0 : w2.cell? ⟨xb, 0, none⟩ = some (.int .u8 83) := by simp [World.cell?, CX.out]
  have x_3 : w2.cell? ⟨xb, 3, none⟩ = some (.slice (some ⟨g, 0, none⟩) 2 kc) := by simp [World.cell?, CX.out]
  have HK2 := Lib.hid (HKC.out w2 (HL.out.below B2.out))
  clear HKC hkk
  by_cases hk : k1 = q
  · have q1 : (k1.toList == q.toList) = true := by rw [hk]; simp
    by_cases hp : keyS k0 = p
    · have q2 : ((keyS k0).toList == p.toList) = true := by rw [hp]; simp
      have HF : Hid (decide (k1 = q ∧ keyS k0 = p) = true) := decide_eq_true ⟨hk, hp⟩
      clear hk hp
      generalize keyS k0 = s0 at HK2 q2 HF HE
      go_wp2_with (go_at_call 26; (with_reducible refine Calls.mono HK2.out ?_); rintro e w3 ⟨rfl, hb⟩; have B3 : Hid (Below w.heap.size w w3) := B2.out.trans (hb.mono B2.out.size); clear hb)
      go_ret
      exact ⟨by rw [HE.out, HF.out]; rfl, B3.out⟩
    · have q2 := toList_ne hp
      have HF : Hid (decide (k1 = q ∧ keyS k0 = p) = false) := decide_eq_false (fun h => hp h.2)
      clear hk hp
      generalize keyS k0 = s0 at HK2 q2 HF HE
      go_wp2_with (go_at_call 26; (with_reducible refine Calls.mono HK2.out ?_); rintro e w3 ⟨rfl, hb⟩; have B3 : Hid (Below w.heap.size w w3) := B2.out.trans (hb.mono B2.out.size); clear hb)
      go_ret
      exact ⟨by rw [HE.out, HF.out]; rfl, B3.out⟩
  · have q1 := toList_ne hk
    have HF : Hid (decide (k1 = q ∧ keyS k0 = p) = false) := decide_eq_false (fun h => hk h.1)
    clear hk
    go_wp2_with fail
    go_ret
    exact ⟨by rw [HE.out, HF.out]; rfl, B2.out⟩
/-- what Verify answers -/
def verifyB (p q t : ByteArray) : Bool := match readP t.data.toList with
  | some x => decide (x.op = 83) && decide (nth x.kids 1 = q.data.toList ∧ keyB (nth x.kids 0) = p.data.toList)
  | none => false
theorem verify_any (p q t : ByteArray) (w : World) (hm : t.size ≤ maxLen) (hL : LibOk w) : Calls Tryd.prog 30 #[.string p, .string q, .string t] w fun e w' => e = .returned (.bool (verifyB p q t)) ∧ Below w.heap.size w w' := by
  unfold verifyB
  cases hx : readP t.data.toList with
  | none => exact verify_none p q t w hm hL hx
  | some x =>
    by_cases h : x.op = 83
    · simp only [h, decide_true, Bool.true_and]
      exact verify_83 p q t w x hm hL hx h
    · simp only [h, decide_false, Bool.false_and]
      exact verify_other p q t w x hm hL hx h
end Go.Proofs.YtlheoipengndnabDoor
