/- term: the document's key. -/
import Derived.Test.YtlheoipengndnabDoorKeyB
import Derived.Test.YtlheoipengndnabDoorRefJ
namespace Go.Proofs.YtlheoipengndnabDoor
set_option linter.unusedVariables false
open Go.RowKit
set_option maxRecDepth 100000 in
set_option maxHeartbeats 4000000 in
theorem rkey_86 (t : ByteArray) (w : World) (x : Sh) (hx : readP t.data.toList = some x) (h : x.op = 86)
    (ih : ∀ (k : ByteArray) (W : World), k.size < t.size → rt k = true → Calls Tryd.prog 37 #[.string k] W fun e w' => e = .returned (.string (keyS k)) ∧ Below W.heap.size W w') :
    Calls Tryd.prog 37 #[.string t] w fun e w' => e = .returned (.string (keyS t)) ∧ Below w.heap.size w w' := by
  have hs : t.size ≤ 16384 := by rw [← list_size]; exact (read_parse hx).2
  have HX := Lib.hid hx
  have HOP := Lib.hid h
  have hz : (x.op.toNat : Int) = 86 := by rw [h]; rfl
  have h2 := read_arity hx 2 (by rw [h]; rfl)
  have HO := Lib.hid (ropen_any t w (by unfold maxLen; omega))
  rw [hx] at HO
  have IH := Lib.hid ih
  clear hx h ih
  go_enter Tryd.func37, Tryd.ntmps37
  go_upto_region 2 with (go_at_call 39; (with_reducible refine Calls.mono HO.out ?_); rintro e w1 ⟨hb, _, hyes⟩; obtain ⟨u, ko, km, kc, rfl, _, hK⟩ := hyes x rfl; have B1 := Lib.hid hb; have K1 := Lib.hid hK; clear hb hyes hK)
  obtain ⟨k0, k1, g, cap', e0, e1, ev, c0, c1⟩ := two_kids K1.out h2
  cases ev
  have B2 : Hid (Below w.heap.size w (w1.alloc (.cells #[.int .u8 86, .int .i64 x.n, .string u, .slice (some ⟨g, 0, none⟩) 2 kc] 36))) := B1.out.alloc B1.out.size _
  have CX : Hid ((w1.alloc (.cells #[.int .u8 86, .int .i64 x.n, .string u, .slice (some ⟨g, 0, none⟩) 2 kc] 36)).heap[w1.heap.size]? = some (.cells #[.int .u8 86, .int .i64 x.n, .string u, .slice (some ⟨g, 0, none⟩) 2 kc] 36 (0, 0))) := heap_alloc_at w1 _
  have d0 := cell_later (below_new' w1 (.cells #[.int .u8 86, .int .i64 x.n, .string u, .slice (some ⟨g, 0, none⟩) 2 kc] 36)) c0
  have d1 := cell_later (below_new' w1 (.cells #[.int .u8 86, .int .i64 x.n, .string u, .slice (some ⟨g, 0, none⟩) 2 kc] 36)) c1
  generalize w1.alloc (.cells #[.int .u8 86, .int .i64 x.n, .string u, .slice (some ⟨g, 0, none⟩) 2 kc] 36) = w2 at B2 CX d0 d1 ⊢
  obtain ⟨xb, hxb⟩ : ∃ xb, w1.heap.size = xb := ⟨_, rfl⟩
  rw [hxb] at CX ⊢
  clear hxb c0 c1 K1
  have x_0 : w2.cell? ⟨xb, 0, none⟩ = some (.int .u8 86) := by simp [World.cell?, CX.out]
  have x_3 : w2.cell? ⟨xb, 3, none⟩ = some (.slice (some ⟨g, 0, none⟩) 2 kc) := by simp [World.cell?, CX.out]
  have hk := read_kids HX.out
  have r0 := hk _ (nth_mem (i := 0) (by omega))
  have r1 := hk _ (nth_mem (i := 1) (by omega))
  rw [← e0, list_size] at r0
  rw [← e1, list_size] at r1
  rw [list_size] at r0 r1
  have hz0 := keyS_size k0 r0.1
  have hz1 := keyS_size k1 r1.1
  have HK : Hid (keyS t = ⟨#[87]⟩ ++ keyS k0 ++ keyS k1) := keyS_86 t k0 k1 x HX.out HOP.out e0 e1
  have HC0 : Hid (∀ W, Below w2.heap.size w2 W → Calls Tryd.prog 37 #[.string k0] W fun e w' => e = .returned (.string (keyS k0)) ∧ Below W.heap.size W w') := fun W _ => IH.out k0 W r0.2 r0.1
  have HC1 : Hid (∀ W, Below w2.heap.size w2 W → Calls Tryd.prog 37 #[.string k1] W fun e w' => e = .returned (.string (keyS k1)) ∧ Below W.heap.size W w') := fun W _ => IH.out k1 W r1.2 r1.1
  generalize keyS k0 = s0 at HC0 HK hz0
  generalize keyS k1 = s1 at HC1 HK hz1
  have a1 := cat_any ⟨#[87]⟩ s0 (by rw [size1]; omega)
  have a2 := cat_any (⟨#[87]⟩ ++ s0) s1 (by rw [ByteArray.size_append, size1]; omega)
  clear hz0 hz1 hk r0 r1 e0 e1 IH HX HOP h2
  go_wp2_with fail
  have BW := Below.refl w2.heap.size w2
  go_region_held3 (fun w' => Below w2.heap.size w2 w' ∧ w'.cell? ⟨xb, 3, none⟩ = some (.slice (some ⟨g, 0, none⟩) 2 kc) ∧ w'.cell? ⟨g, 0, none⟩ = some (.string k0) ∧ w'.cell? ⟨g, 1, none⟩ = some (.string k1))
    ((go_split_ands; with_reducible exact keep3 (by (first | (with_reducible assumption) | (repeat' (first | (with_reducible exact Below.refl _ _) | (with_reducible assumption) | (with_reducible refine Below.drew ?_) | (with_reducible refine below_drewN ?_ _) | (refine Below.trans ?_ (Below.mono (by assumption) ?_)) | go_size)))) (by with_reducible assumption) (by with_reducible assumption) (by with_reducible assumption)))
    ((first
      | (go_at_call 37; go_split_ands; (with_reducible refine Calls.mono (HC0.out _ (by with_reducible assumption)) ?_); rintro e w6 ⟨rfl, hb6⟩; have BX : Below w2.heap.size w2 w6 := lt2 (by with_reducible assumption) hb6)
      | (go_at_call 37; go_split_ands; (with_reducible refine Calls.mono (HC1.out _ (by with_reducible assumption)) ?_); rintro e w7 ⟨rfl, hb7⟩; have BY : Below w2.heap.size w2 w7 := lt2 (by with_reducible assumption) hb7)))
  all_goals go_wp2_with fail
  all_goals go_ret
  exact ⟨by rw [HK.out]; rfl, B2.out.trans (Below.mono (by assumption) B2.out.size)⟩
set_option maxRecDepth 100000 in
set_option maxHeartbeats 4000000 in
theorem rkey_75 (t : ByteArray) (w : World) (x : Sh) (hx : readP t.data.toList = some x) (h : x.op = 75)
    (ih : ∀ (k : ByteArray) (W : World), k.size < t.size → rt k = true → Calls Tryd.prog 37 #[.string k] W fun e w' => e = .returned (.string (keyS k)) ∧ Below W.heap.size W w') :
    Calls Tryd.prog 37 #[.string t] w fun e w' => e = .returned (.string (keyS t)) ∧ Below w.heap.size w w' := by
  have hs : t.size ≤ 16384 := by rw [← list_size]; exact (read_parse hx).2
  have HX := Lib.hid hx
  have HOP := Lib.hid h
  have hz : (x.op.toNat : Int) = 75 := by rw [h]; rfl
  have h2 := read_arity hx 2 (by rw [h]; rfl)
  have HO := Lib.hid (ropen_any t w (by unfold maxLen; omega))
  rw [hx] at HO
  have IH := Lib.hid ih
  clear hx h ih
  go_enter Tryd.func37, Tryd.ntmps37
  go_upto_region 2 with (go_at_call 39; (with_reducible refine Calls.mono HO.out ?_); rintro e w1 ⟨hb, _, hyes⟩; obtain ⟨u, ko, km, kc, rfl, _, hK⟩ := hyes x rfl; have B1 := Lib.hid hb; have K1 := Lib.hid hK; clear hb hyes hK)
  obtain ⟨k0, k1, g, cap', e0, e1, ev, c0, c1⟩ := two_kids K1.out h2
  cases ev
  have B2 : Hid (Below w.heap.size w (w1.alloc (.cells #[.int .u8 75, .int .i64 x.n, .string u, .slice (some ⟨g, 0, none⟩) 2 kc] 36))) := B1.out.alloc B1.out.size _
  have CX : Hid ((w1.alloc (.cells #[.int .u8 75, .int .i64 x.n, .string u, .slice (some ⟨g, 0, none⟩) 2 kc] 36)).heap[w1.heap.size]? = some (.cells #[.int .u8 75, .int .i64 x.n, .string u, .slice (some ⟨g, 0, none⟩) 2 kc] 36 (0, 0))) := heap_alloc_at w1 _
  have d0 := cell_later (below_new' w1 (.cells #[.int .u8 75, .int .i64 x.n, .string u, .slice (some ⟨g, 0, none⟩) 2 kc] 36)) c0
  have d1 := cell_later (below_new' w1 (.cells #[.int .u8 75, .int .i64 x.n, .string u, .slice (some ⟨g, 0, none⟩) 2 kc] 36)) c1
  generalize w1.alloc (.cells #[.int .u8 75, .int .i64 x.n, .string u, .slice (some ⟨g, 0, none⟩) 2 kc] 36) = w2 at B2 CX d0 d1 ⊢
  obtain ⟨xb, hxb⟩ : ∃ xb, w1.heap.size = xb := ⟨_, rfl⟩
  rw [hxb] at CX ⊢
  clear hxb c0 c1 K1
  have x_0 : w2.cell? ⟨xb, 0, none⟩ = some (.int .u8 75) := by simp [World.cell?, CX.out]
  have x_3 : w2.cell? ⟨xb, 3, none⟩ = some (.slice (some ⟨g, 0, none⟩) 2 kc) := by simp [World.cell?, CX.out]
  have hk := read_kids HX.out
  have r0 := hk _ (nth_mem (i := 0) (by omega))
  have r1 := hk _ (nth_mem (i := 1) (by omega))
  rw [← e0, list_size] at r0
  rw [← e1, list_size] at r1
  rw [list_size] at r0 r1
  have hz0 := keyS_size k0 r0.1
  have hz1 := right_size r1.1
  have HK : Hid (keyS t = ⟨#[76]⟩ ++ keyS k0 ++ k1) := keyS_75 t k0 k1 x HX.out HOP.out e0 e1
  have HC0 : Hid (∀ W, Below w2.heap.size w2 W → Calls Tryd.prog 37 #[.string k0] W fun e w' => e = .returned (.string (keyS k0)) ∧ Below W.heap.size W w') := fun W _ => IH.out k0 W r0.2 r0.1
  generalize keyS k0 = s0 at HC0 HK hz0
  have a1 := cat_any ⟨#[76]⟩ s0 (by rw [size1]; omega)
  have a2 := cat_any (⟨#[76]⟩ ++ s0) k1 (by rw [ByteArray.size_append, size1]; omega)
  clear hz0 hz1 hk r0 r1 e0 e1 IH HX HOP h2
  go_wp2_with fail
  have BW := Below.refl w2.heap.size w2
  go_region_held3 (fun w' => Below w2.heap.size w2 w' ∧ w'.cell? ⟨xb, 3, none⟩ = some (.slice (some ⟨g, 0, none⟩) 2 kc) ∧ w'.cell? ⟨g, 0, none⟩ = some (.string k0) ∧ w'.cell? ⟨g, 1, none⟩ = some (.string k1))
    ((go_split_ands; with_reducible exact keep3 (by (first | (with_reducible assumption) | (repeat' (first | (with_reducible exact Below.refl _ _) | (with_reducible assumption) | (with_reducible refine Below.drew ?_) | (with_reducible refine below_drewN ?_ _) | (refine Below.trans ?_ (Below.mono (by assumption) ?_)) | go_size)))) (by with_reducible assumption) (by with_reducible assumption) (by with_reducible assumption)))
    ((go_at_call 37; go_split_ands; (with_reducible refine Calls.mono (HC0.out _ (by with_reducible assumption)) ?_); rintro e w6 ⟨rfl, hb6⟩; have BX : Below w2.heap.size w2 w6 := lt2 (by with_reducible assumption) hb6))
  all_goals go_wp2_with fail
  all_goals go_ret
  exact ⟨by rw [HK.out]; rfl, B2.out.trans (Below.mono (by assumption) B2.out.size)⟩
set_option maxRecDepth 100000 in
set_option maxHeartbeats 4000000 in
theorem rkey_else (t : ByteArray) (w : World) (x : Sh) (hx : readP t.data.toList = some x) (h : x.op ≠ 86) (h' : x.op ≠ 75) : Calls Tryd.prog 37 #[.string t] w fun e w' => e = .returned (.string (keyS t)) ∧ Below w.heap.size w w' := by
  have hs : t.size ≤ 16384 := by rw [← list_size]; exact (read_parse hx).2
  have c1 := cat_any ⟨#[80]⟩ t (by rw [size1]; omega)
  rw [keyS_else t x hx h h']
  have HO := Lib.hid (ropen_any t w (by unfold maxLen; omega))
  rw [hx] at HO
  obtain ⟨oz, hoz⟩ : ∃ oz : Int, (x.op.toNat : Int) = oz := ⟨_, rfl⟩
  have ne : ∀ k : UInt8, x.op ≠ k → (x.op.toNat : Int) ≠ (k.toNat : Int) := fun k h h' => h (UInt8.toNat_inj.mp (by omega))
  have b1 : (oz == 86) = false := beq_eq_false_iff_ne.mpr (by rw [← hoz]; exact ne 86 h)
  have b2 : (oz == 75) = false := beq_eq_false_iff_ne.mpr (by rw [← hoz]; exact ne 75 h')
  clear ne h h' hx
  go_enter Tryd.func37, Tryd.ntmps37
  go_upto_region 2 with (go_at_call 39; (with_reducible refine Calls.mono HO.out ?_); rintro e w1 ⟨hb, _, hyes⟩; obtain ⟨u, ko, km, kc, rfl, _, hK⟩ := hyes x rfl; have B1 := Lib.hid hb; clear hb hyes hK)
  have B2 : Hid (Below w.heap.size w (w1.alloc (.cells #[.int .u8 oz, .int .i64 x.n, .string u, .slice ko km kc] 36))) := B1.out.alloc B1.out.size _
  have CX : Hid ((w1.alloc (.cells #[.int .u8 oz, .int .i64 x.n, .string u, .slice ko km kc] 36)).heap[w1.heap.size]? = some (.cells #[.int .u8 oz, .int .i64 x.n, .string u, .slice ko km kc] 36 (0, 0))) := heap_alloc_at w1 _
  generalize w1.alloc (.cells #[.int .u8 oz, .int .i64 x.n, .string u, .slice ko km kc] 36) = w2 at B2 CX ⊢
  obtain ⟨xb, hxb⟩ : ∃ xb, w1.heap.size = xb := ⟨_, rfl⟩
  rw [hxb] at CX ⊢
  clear hxb
  have x_0 : w2.cell? ⟨xb, 0, none⟩ = some (.int .u8 oz) := by simp [World.cell?, CX.out]
  go_wp2_with fail
  go_ret
  exact ⟨rfl, B2.out⟩
theorem rkey_any : ∀ (n : Nat) (t : ByteArray) (w : World), t.size ≤ n → rt t = true → Calls Tryd.prog 37 #[.string t] w fun e w' => e = .returned (.string (keyS t)) ∧ Below w.heap.size w w' := by
  intro n
  induction n with
  | zero =>
    intro t w hn hr
    obtain ⟨x, hx⟩ := right_read hr
    obtain ⟨l', e⟩ := read_head hx
    have := congrArg List.length e
    rw [list_size, List.length_cons] at this; omega
  | succ n ih =>
    intro t w hn hr
    obtain ⟨x, hx⟩ := right_read hr
    by_cases h86 : x.op = 86
    · exact rkey_86 t w x hx h86 (fun k W hk hr => ih k W (by omega) hr)
    · by_cases h75 : x.op = 75
      · exact rkey_75 t w x hx h75 (fun k W hk hr => ih k W (by omega) hr)
      · exact rkey_else t w x hx h86 h75
end Go.Proofs.YtlheoipengndnabDoor
