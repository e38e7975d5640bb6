/- term: Agree. -/
import Derived.Test.YtbdimlppnhcicaaGreatDoorVa
import Derived.Test.YtbdimlppnhcicaaGreatDoorBa
namespace Go.Proofs.YtbdimlppnhcicaaGreatDoor
set_option linter.unusedVariables false
open Go.RowKit
set_option maxRecDepth 100000 in
set_option maxHeartbeats 4000000 in
theorem agree_none (p t : ByteArray) (w : World) (hm : t.size ≤ maxLen) (hL : LibOk w) (hx : readP t.data.toList = none) : Calls Tryz.prog 118 #[.string p, .string t] w fun e w' => e = .returned (.tuple #[.string ⟨#[]⟩, .int .i64 10]) ∧ Below w.heap.size w w' := by
  have HO := Lib.hid (open_any t w hm hL)
  rw [hx] at HO
  clear hx hL
  go_enter Tryz.func118, Tryz.ntmps118
  go_upto_region 2 with (go_at_call 120; (with_reducible refine Calls.mono HO.out ?_); rintro e w1 ⟨hb, hno, _⟩; obtain rfl := hno rfl; have B1 := Lib.hid hb; clear hb hno)
  have B2 : Hid (Below w.heap.size w (w1.alloc (.cells #[.int .u8 0, .int .i64 0, .string ⟨#[]⟩, .slice none 0 0] 192))) := B1.out.alloc B1.out.size _
  have CX : Hid ((w1.alloc (.cells #[.int .u8 0, .int .i64 0, .string ⟨#[]⟩, .slice none 0 0] 192)).heap[w1.heap.size]? = some (.cells #[.int .u8 0, .int .i64 0, .string ⟨#[]⟩, .slice none 0 0] 192 (0, 0))) := heap_alloc_at w1 _
  generalize w1.alloc (.cells #[.int .u8 0, .int .i64 0, .string ⟨#[]⟩, .slice none 0 0] 192) = w2 at B2 CX ⊢
  obtain ⟨xb, hxb⟩ : ∃ xb, w1.heap.size = xb := ⟨_, rfl⟩
  rw [hxb] at CX ⊢
  clear hxb
  have x_0 : w2.cell? ⟨xb, 0, none⟩ = some (.int .u8 0) := by simp [World.cell?, CX.out]
  go_wp2_with fail
  go_ret2
  exact ⟨rfl, B2.out⟩
set_option maxRecDepth 100000 in
set_option maxHeartbeats 4000000 in
theorem agree_other (p t : ByteArray) (w : World) (x : Sh) (hm : t.size ≤ maxLen) (hL : LibOk w) (hx : readP t.data.toList = some x) (h : x.op ≠ 80) : Calls Tryz.prog 118 #[.string p, .string t] w fun e w' => e = .returned (.tuple #[.string ⟨#[]⟩, .int .i64 10]) ∧ Below w.heap.size w w' := by
  have HO := Lib.hid (open_any t w hm hL)
  rw [hx] at HO
  obtain ⟨oz, hoz⟩ : ∃ oz : Int, (x.op.toNat : Int) = oz := ⟨_, rfl⟩
  have ne : ∀ k : UInt8, x.op ≠ k → (x.op.toNat : Int) ≠ (k.toNat : Int) := fun k h h' => h (UInt8.toNat_inj.mp (by omega))
  have b1 : (oz != 80) = true := by rw [bne_iff_ne, ← hoz]; exact ne 80 h
  clear ne h hx hL
  go_enter Tryz.func118, Tryz.ntmps118
  go_upto_region 2 with (go_at_call 120; (with_reducible refine Calls.mono HO.out ?_); rintro e w1 ⟨hb, _, hyes⟩; obtain ⟨u, ko, km, kc, rfl, _, hK⟩ := hyes x rfl; have B1 := Lib.hid hb; clear hb hyes hK)
  have B2 : Hid (Below w.heap.size w (w1.alloc (.cells #[.int .u8 oz, .int .i64 x.n, .string u, .slice ko km kc] 192))) := B1.out.alloc B1.out.size _
  have CX : Hid ((w1.alloc (.cells #[.int .u8 oz, .int .i64 x.n, .string u, .slice ko km kc] 192)).heap[w1.heap.size]? = some (.cells #[.int .u8 oz, .int .i64 x.n, .string u, .slice ko km kc] 192 (0, 0))) := heap_alloc_at w1 _
  generalize w1.alloc (.cells #[.int .u8 oz, .int .i64 x.n, .string u, .slice ko km kc] 192) = w2 at B2 CX ⊢
  obtain ⟨xb, hxb⟩ : ∃ xb, w1.heap.size = xb := ⟨_, rfl⟩
  rw [hxb] at CX ⊢
  clear hxb
  have x_0 : w2.cell? ⟨xb, 0, none⟩ = some (.int .u8 oz) := by simp [World.cell?, CX.out]
  go_wp2_with fail
  go_ret2
  exact ⟨rfl, B2.out⟩
theorem one_kid {B : Nat} {kv : Value} {ks : List (List UInt8)} {w : World} (h : KidsAt B kv ks w) (h2 : ks.length = 1) :
    ∃ (k0 : ByteArray) (g cap : Nat), k0.data.toList = nth ks 0 ∧ kv = .slice (some ⟨g, 0, none⟩) 1 cap ∧ w.cell? ⟨g, 0, none⟩ = some (.string k0) := by
  obtain ⟨vs, hvs, hown⟩ := h
  have hl : vs.length = 1 := by rw [← h2, ← hvs, List.length_map]
  obtain ⟨k0, rfl⟩ := List.length_eq_one_iff.1 hl
  obtain ⟨g, cap, e1, _, e3⟩ := own_cells hown (by omega)
  subst hvs
  exact ⟨k0, g, cap, rfl, e1, e3 0 _ rfl⟩
def agreeW (p k : ByteArray) : Value := if Op.bytesLess k.toList p.toList = true then buildV ⟨#[88]⟩ [k, p] else buildV ⟨#[88]⟩ [p, k]
set_option maxRecDepth 100000 in
set_option maxHeartbeats 4000000 in
theorem agree_80 (p t : ByteArray) (w : World) (x : Sh) (hm : t.size ≤ maxLen) (hpm : p.size ≤ maxLen) (hL : LibOk w) (hx : readP t.data.toList = some x) (h : x.op = 80) : Calls Tryz.prog 118 #[.string p, .string t] w fun e w' => e = .returned (agreeW p ⟨(nth x.kids 0).toArray⟩) ∧ Below w.heap.size w w' := by
  have HO := Lib.hid (open_any t w hm hL)
  rw [hx] at HO
  have hz : (x.op.toNat : Int) = 80 := by rw [h]; rfl
  have h2 := read_arity hx 1 (by rw [h]; rfl)
  have HX := Lib.hid hx
  have HL := Lib.hid hL
  clear hx hL h
  go_enter Tryz.func118, Tryz.ntmps118
  go_upto_region 2 with (go_at_call 120; (with_reducible refine Calls.mono HO.out ?_); rintro e w1 ⟨hb, _, hyes⟩; obtain ⟨u, ko, km, kc, rfl, _, hK⟩ := hyes x rfl; have B1 := Lib.hid hb; have K1 := Lib.hid hK; clear hb hyes hK)
  obtain ⟨k0, g, cap', e0, ev, c0⟩ := one_kid K1.out h2
  cases ev
  have B2 : Hid (Below w.heap.size w (w1.alloc (.cells #[.int .u8 80, .int .i64 x.n, .string u, .slice (some ⟨g, 0, none⟩) 1 kc] 192))) := B1.out.alloc B1.out.size _
  have CX : Hid ((w1.alloc (.cells #[.int .u8 80, .int .i64 x.n, .string u, .slice (some ⟨g, 0, none⟩) 1 kc] 192)).heap[w1.heap.size]? = some (.cells #[.int .u8 80, .int .i64 x.n, .string u, .slice (some ⟨g, 0, none⟩) 1 kc] 192 (0, 0))) := heap_alloc_at w1 _
  have d0 := cell_later (below_new' w1 (.cells #[.int .u8 80, .int .i64 x.n, .string u, .slice (some ⟨g, 0, none⟩) 1 kc] 192)) c0
  generalize w1.alloc (.cells #[.int .u8 80, .int .i64 x.n, .string u, .slice (some ⟨g, 0, none⟩) 1 kc] 192) = w2 at B2 CX d0 ⊢
  obtain ⟨xb, hxb⟩ : ∃ xb, w1.heap.size = xb := ⟨_, rfl⟩
  rw [hxb] at CX ⊢
  have hkk := read_kids HX.out _ (nth_mem (i := 0) (by omega))
  rw [← e0, list_size] at hkk
  have hk0 : k0.size ≤ maxLen := Nat.le_trans (right_size hkk.1) (by unfold maxLen; omega)
  have HE : Hid (agreeW p ⟨(nth x.kids 0).toArray⟩ = agreeW p k0) := by
    show _ = _
    rw [← e0]
  have HL2 := Lib.hid (HL.out.below B2.out)
  have HB : Hid (∀ a b : ByteArray, a.size ≤ maxLen → b.size ≤ maxLen → Calls Tryz.prog 115 #[.string ⟨#[88]⟩, .slice (some ⟨w2.heap.size, 0, none⟩) 2 2] (w2.alloc (.cells #[.string a, .string b] 23)) fun e w' => e = .returned (buildV ⟨#[88]⟩ [a, b]) ∧ Below (w2.alloc (.cells #[.string a, .string b] 23)).heap.size (w2.alloc (.cells #[.string a, .string b] 23)) w') := fun a b ha hb => build_any ⟨#[88]⟩ (some ⟨w2.heap.size, 0, none⟩) [a, b] 2 2 (w2.alloc (.cells #[.string a, .string b] 23)) rfl (by omega) (by rw [size1]; omega) (by intro v hv; simp at hv; rcases hv with rfl | rfl <;> assumption) (strs_two a b w2) (HL2.out.below ((Below.refl _ _).alloc (Nat.le_refl _) _))
  clear hxb c0 K1 e0 hkk
  have x_0 : w2.cell? ⟨xb, 0, none⟩ = some (.int .u8 80) := by simp [World.cell?, CX.out]
  have x_3 : w2.cell? ⟨xb, 3, none⟩ = some (.slice (some ⟨g, 0, none⟩) 1 kc) := by simp [World.cell?, CX.out]
  cases q : Op.bytesLess k0.toList p.toList with
  | true =>
    have HC := Lib.hid (HB.out k0 p hk0 hpm)
    obtain ⟨s, n, hs⟩ := buildV_tuple ⟨#[88]⟩ [k0, p]
    have HV : Hid (agreeW p ⟨(nth x.kids 0).toArray⟩ = .tuple #[.string s, .int .i64 n]) := by show _ = _; rw [HE.out]; unfold agreeW; rw [if_pos q, hs]
    rw [hs] at HC
    clear HB hs
    go_wp2_with (go_at_call 115; (with_reducible refine Calls.mono HC.out ?_); rintro e w3 ⟨rfl, hb⟩; have B3 : Hid (Below w.heap.size w w3) := (B2.out.alloc B2.out.size _).trans (hb.mono (by have := B2.out.size; simp; omega)); clear hb)
    go_ret2
    exact ⟨by rw [HV.out]; rfl, B3.out⟩
  | false =>
    have HC := Lib.hid (HB.out p k0 hpm hk0)
    obtain ⟨s, n, hs⟩ := buildV_tuple ⟨#[88]⟩ [p, k0]
    have HV : Hid (agreeW p ⟨(nth x.kids 0).toArray⟩ = .tuple #[.string s, .int .i64 n]) := by show _ = _; rw [HE.out]; unfold agreeW; rw [if_neg (by rw [q]; decide), hs]
    rw [hs] at HC
    clear HB hs
    go_wp2_with (go_at_call 115; (with_reducible refine Calls.mono HC.out ?_); rintro e w3 ⟨rfl, hb⟩; have B3 : Hid (Below w.heap.size w w3) := (B2.out.alloc B2.out.size _).trans (hb.mono (by have := B2.out.size; simp; omega)); clear hb)
    go_ret2
    exact ⟨by rw [HV.out]; rfl, B3.out⟩
end Go.Proofs.YtbdimlppnhcicaaGreatDoor
