/- term: key of a pair of kinds. -/
import Derived.Test.YtlheoipengndnabDoorKeyA
namespace Go.Proofs.YtlheoipengndnabDoor
set_option linter.unusedVariables false
open Go.RowKit
/-- two parts in their own row -/
theorem two_kids {B : Nat} {kv : Value} {ks : List (List UInt8)} {w : World} (h : KidsAt B kv ks w) (h2 : ks.length = 2) :
    ∃ (k0 k1 : ByteArray) (g cap : Nat), k0.data.toList = nth ks 0 ∧ k1.data.toList = nth ks 1 ∧ kv = .slice (some ⟨g, 0, none⟩) 2 cap ∧ w.cell? ⟨g, 0, none⟩ = some (.string k0) ∧ w.cell? ⟨g, 1, none⟩ = some (.string k1) := by
  obtain ⟨vs, hvs, hown⟩ := h
  have hl : vs.length = 2 := by rw [← h2, ← hvs, List.length_map]
  obtain ⟨k0, k1, rfl⟩ := len_two hl
  obtain ⟨g, cap, e1, _, e3⟩ := own_cells hown (by omega)
  subst hvs
  exact ⟨k0, k1, g, cap, rfl, rfl, e1, e3 0 _ rfl, e3 1 _ rfl⟩
set_option maxRecDepth 100000 in
set_option maxHeartbeats 4000000 in
theorem key_86 (t : ByteArray) (w : World) (x : Sh) (hx : readP t.data.toList = some x) (h : x.op = 86) (hL : LibOk w)
    (ih : ∀ (k : ByteArray) (W : World), k.size < t.size → rt k = true → LibOk W → Calls Tryd.prog 26 #[.string k] W fun e w' => e = .returned (.string (keyS k)) ∧ Below W.heap.size W w') :
    Calls Tryd.prog 26 #[.string t] w fun e w' => e = .returned (.string (keyS t)) ∧ Below w.heap.size w w' := by
  obtain ⟨l', hl'⟩ := read_head hx
  obtain ⟨h0, hc0⟩ := byte_at t 0 x.op l' hl'
  have h0i : (0 : Int) < (t.size : Int) := by omega
  have hs : t.size ≤ 16384 := by rw [← list_size]; exact (read_parse hx).2
  have HX := Lib.hid hx
  have HOP := Lib.hid h
  have HL := Lib.hid hL
  have hz : (x.op.toNat : Int) = 86 := by rw [h]; rfl
  have h2 := read_arity hx 2 (by rw [h]; rfl)
  have HO := Lib.hid (open_any t w (by unfold maxLen; omega) hL)
  rw [hx] at HO
  have IH := Lib.hid ih
  clear hx h hL ih hl'
  go_enter Tryd.func26, Tryd.ntmps26
  go_upto_region 4 with (go_at_call 34; (with_reducible refine Calls.mono HO.out ?_); rintro e w1 ⟨hb, _, hyes⟩; obtain ⟨u, ko, km, kc, rfl, _, hK⟩ := hyes x rfl; have B1 := Lib.hid hb; have K1 := Lib.hid hK; clear hb hyes hK)
  obtain ⟨k0, k1, g, cap', e0, e1, ev, c0, c1⟩ := two_kids K1.out h2
  cases ev
  have B2 : Hid (Below w.heap.size w (w1.alloc (.cells #[.int .u8 86, .int .i64 x.n, .string u, .slice (some ⟨g, 0, none⟩) 2 kc] 36))) := B1.out.alloc B1.out.size _
  have CX : Hid ((w1.alloc (.cells #[.int .u8 86, .int .i64 x.n, .string u, .slice (some ⟨g, 0, none⟩) 2 kc] 36)).heap[w1.heap.size]? = some (.cells #[.int .u8 86, .int .i64 x.n, .string u, .slice (some ⟨g, 0, none⟩) 2 kc] 36 (0, 0))) := heap_alloc_at w1 _
  have d0 := cell_later (below_new' w1 (.cells #[.int .u8 86, .int .i64 x.n, .string u, .slice (some ⟨g, 0, none⟩) 2 kc] 36)) c0
  have d1 := cell_later (below_new' w1 (.cells #[.int .u8 86, .int .i64 x.n, .string u, .slice (some ⟨g, 0, none⟩) 2 kc] 36)) c1
  generalize w1.alloc (.cells #[.int .u8 86, .int .i64 x.n, .string u, .slice (some ⟨g, 0, none⟩) 2 kc] 36) = w2 at B2 CX d0 d1 ⊢
  obtain ⟨xb, hxb⟩ : ∃ xb, w1.heap.size = xb := ⟨_, rfl⟩
  rw [hxb] at CX ⊢
  clear hxb c0 c1 K1
  have x_0 : w2.cell? ⟨xb, 0, none⟩ = some (.int .u8 86) := by simp [World.cell?, CX.out]
  have x_3 : w2.cell? ⟨xb, 3, none⟩ = some (.slice (some ⟨g, 0, none⟩) 2 kc) := by simp [World.cell?, CX.out]
  have hk := read_kids HX.out
  have r0 := hk _ (nth_mem (i := 0) (by omega))
  have r1 := hk _ (nth_mem (i := 1) (by omega))
  rw [← e0, list_size] at r0
  rw [← e1, list_size] at r1
  rw [list_size] at r0 r1
  have hz0 := keyS_size k0 r0.1
  have hz1 := keyS_size k1 r1.1
  have HK : Hid (keyS t = ⟨#[87]⟩ ++ keyS k0 ++ keyS k1) := keyS_86 t k0 k1 x HX.out HOP.out e0 e1
  have HL2 := Lib.hid (HL.out.below B2.out)
  have HC0 : Hid (∀ W, Below w2.heap.size w2 W → Calls Tryd.prog 26 #[.string k0] W fun e w' => e = .returned (.string (keyS k0)) ∧ Below W.heap.size W w') := fun W hW => IH.out k0 W r0.2 r0.1 (HL2.out.below hW)
  have HC1 : Hid (∀ W, Below w2.heap.size w2 W → Calls Tryd.prog 26 #[.string k1] W fun e w' => e = .returned (.string (keyS k1)) ∧ Below W.heap.size W w') := fun W hW => IH.out k1 W r1.2 r1.1 (HL2.out.below hW)
  generalize keyS k0 = s0 at HC0 HK hz0
  generalize keyS k1 = s1 at HC1 HK hz1
  have a1 := cat_any ⟨#[87]⟩ s0 (by rw [size1]; omega)
  have a2 := cat_any (⟨#[87]⟩ ++ s0) s1 (by rw [ByteArray.size_append, size1]; omega)
  clear hz0 hz1 hk r0 r1 e0 e1 IH HX HOP h2
  go_wp2_with fail
  have BW := Below.refl w2.heap.size w2
  go_region_held3 (fun w' => Below w2.heap.size w2 w' ∧ w'.cell? ⟨xb, 3, none⟩ = some (.slice (some ⟨g, 0, none⟩) 2 kc) ∧ w'.cell? ⟨g, 0, none⟩ = some (.string k0) ∧ w'.cell? ⟨g, 1, none⟩ = some (.string k1))
    ((go_split_ands; with_reducible exact keep3 (by (first | (with_reducible assumption) | (repeat' (first | (with_reducible exact Below.refl _ _) | (with_reducible assumption) | (with_reducible refine Below.drew ?_) | (with_reducible refine below_drewN ?_ _) | (refine Below.trans ?_ (Below.mono (by assumption) ?_)) | go_size)))) (by with_reducible assumption) (by with_reducible assumption) (by with_reducible assumption)))
    ((first
      | (go_at_call 26; go_split_ands; (with_reducible refine Calls.mono (HC0.out _ (by with_reducible assumption)) ?_); rintro e w6 ⟨rfl, hb6⟩; have BX : Below w2.heap.size w2 w6 := lt2 (by with_reducible assumption) hb6)
      | (go_at_call 26; go_split_ands; (with_reducible refine Calls.mono (HC1.out _ (by with_reducible assumption)) ?_); rintro e w7 ⟨rfl, hb7⟩; have BY : Below w2.heap.size w2 w7 := lt2 (by with_reducible assumption) hb7)))
  all_goals go_wp2_with fail
  all_goals go_ret
  exact ⟨by rw [HK.out]; rfl, B2.out.trans (Below.mono (by assumption) B2.out.size)⟩
set_option maxRecDepth 100000 in
set_option maxHeartbeats 4000000 in
theorem key_75 (t : ByteArray) (w : World) (x : Sh) (hx : readP t.data.toList = some x) (h : x.op = 75) (hL : LibOk w)
    (ih : ∀ (k : ByteArray) (W : World), k.size < t.size → rt k = true → LibOk W → Calls Tryd.prog 26 #[.string k] W fun e w' => e = .returned (.string (keyS k)) ∧ Below W.heap.size W w') :
    Calls Tryd.prog 26 #[.string t] w fun e w' => e = .returned (.string (keyS t)) ∧ Below w.heap.size w w' := by
  obtain ⟨l', hl'⟩ := read_head hx
  obtain ⟨h0, hc0⟩ := byte_at t 0 x.op l' hl'
  have h0i : (0 : Int) < (t.size : Int) := by omega
  have hs : t.size ≤ 16384 := by rw [← list_size]; exact (read_parse hx).2
  have HX := Lib.hid hx
  have HOP := Lib.hid h
  have HL := Lib.hid hL
  have hz : (x.op.toNat : Int) = 75 := by rw [h]; rfl
  have h2 := read_arity hx 2 (by rw [h]; rfl)
  have HO := Lib.hid (open_any t w (by unfold maxLen; omega) hL)
  rw [hx] at HO
  have IH := Lib.hid ih
  clear hx h hL ih hl'
  go_enter Tryd.func26, Tryd.ntmps26
  go_upto_region 4 with (go_at_call 34; (with_reducible refine Calls.mono HO.out ?_); rintro e w1 ⟨hb, _, hyes⟩; obtain ⟨u, ko, km, kc, rfl, _, hK⟩ := hyes x rfl; have B1 := Lib.hid hb; have K1 := Lib.hid hK; clear hb hyes hK)
  obtain ⟨k0, k1, g, cap', e0, e1, ev, c0, c1⟩ := two_kids K1.out h2
  cases ev
  have B2 : Hid (Below w.heap.size w (w1.alloc (.cells #[.int .u8 75, .int .i64 x.n, .string u, .slice (some ⟨g, 0, none⟩) 2 kc] 36))) := B1.out.alloc B1.out.size _
  have CX : Hid ((w1.alloc (.cells #[.int .u8 75, .int .i64 x.n, .string u, .slice (some ⟨g, 0, none⟩) 2 kc] 36)).heap[w1.heap.size]? = some (.cells #[.int .u8 75, .int .i64 x.n, .string u, .slice (some ⟨g, 0, none⟩) 2 kc] 36 (0, 0))) := heap_alloc_at w1 _
  have d0 := cell_later (below_new' w1 (.cells #[.int .u8 75, .int .i64 x.n, .string u, .slice (some ⟨g, 0, none⟩) 2 kc] 36)) c0
  have d1 := cell_later (below_new' w1 (.cells #[.int .u8 75, .int .i64 x.n, .string u, .slice (some ⟨g, 0, none⟩) 2 kc] 36)) c1
  generalize w1.alloc (.cells #[.int .u8 75, .int .i64 x.n, .string u, .slice (some ⟨g, 0, none⟩) 2 kc] 36) = w2 at B2 CX d0 d1 ⊢
  obtain ⟨xb, hxb⟩ : ∃ xb, w1.heap.size = xb := ⟨_, rfl⟩
  rw [hxb] at CX ⊢
  clear hxb c0 c1 K1
  have x_0 : w2.cell? ⟨xb, 0, none⟩ = some (.int .u8 75) := by simp [World.cell?, CX.out]
  have x_3 : w2.cell? ⟨xb, 3, none⟩ = some (.slice (some ⟨g, 0, none⟩) 2 kc) := by simp [World.cell?, CX.out]
  have hk := read_kids HX.out
  have r0 := hk _ (nth_mem (i := 0) (by omega))
  have r1 := hk _ (nth_mem (i := 1) (by omega))
  rw [← e0, list_size] at r0
  rw [← e1, list_size] at r1
  rw [list_size] at r0 r1
  have hz0 := keyS_size k0 r0.1
  have hz1 := right_size r1.1
  have HK : Hid (keyS t = ⟨#[76]⟩ ++ keyS k0 ++ k1) := keyS_75 t k0 k1 x HX.out HOP.out e0 e1
  have HL2 := Lib.hid (HL.out.below B2.out)
  have HC0 : Hid (∀ W, Below w2.heap.size w2 W → Calls Tryd.prog 26 #[.string k0] W fun e w' => e = .returned (.string (keyS k0)) ∧ Below W.heap.size W w') := fun W hW => IH.out k0 W r0.2 r0.1 (HL2.out.below hW)
  generalize keyS k0 = s0 at HC0 HK hz0
  have a1 := cat_any ⟨#[76]⟩ s0 (by rw [size1]; omega)
  have a2 := cat_any (⟨#[76]⟩ ++ s0) k1 (by rw [ByteArray.size_append, size1]; omega)
  clear hz0 hz1 hk r0 r1 e0 e1 IH HX HOP h2
  go_wp2_with fail
  have BW := Below.refl w2.heap.size w2
  go_region_held3 (fun w' => Below w2.heap.size w2 w' ∧ w'.cell? ⟨xb, 3, none⟩ = some (.slice (some ⟨g, 0, none⟩) 2 kc) ∧ w'.cell? ⟨g, 0, none⟩ = some (.string k0) ∧ w'.cell? ⟨g, 1, none⟩ = some (.string k1))
    ((go_split_ands; with_reducible exact keep3 (by (first | (with_reducible assumption) | (repeat' (first | (with_reducible exact Below.refl _ _) | (with_reducible assumption) | (with_reducible refine Below.drew ?_) | (with_reducible refine below_drewN ?_ _) | (refine Below.trans ?_ (Below.mono (by assumption) ?_)) | go_size)))) (by with_reducible assumption) (by with_reducible assumption) (by with_reducible assumption)))
    ((go_at_call 26; go_split_ands; (with_reducible refine Calls.mono (HC0.out _ (by with_reducible assumption)) ?_); rintro e w6 ⟨rfl, hb6⟩; have BX : Below w2.heap.size w2 w6 := lt2 (by with_reducible assumption) hb6))
  all_goals go_wp2_with fail
  all_goals go_ret
  exact ⟨by rw [HK.out]; rfl, B2.out.trans (Below.mono (by assumption) B2.out.size)⟩
theorem key_any : ∀ (n : Nat) (t : ByteArray) (w : World), t.size ≤ n → rt t = true → LibOk w → Calls Tryd.prog 26 #[.string t] w fun e w' => e = .returned (.string (keyS t)) ∧ Below w.heap.size w w' := by
  intro n
  induction n with
  | zero =>
    intro t w hn hr hL
    obtain ⟨x, hx⟩ := right_read hr
    obtain ⟨l', e⟩ := read_head hx
    have := congrArg List.length e
    rw [list_size, List.length_cons] at this; omega
  | succ n ih =>
    intro t w hn hr hL
    obtain ⟨x, hx⟩ := right_read hr
    by_cases h86 : x.op = 86
    · exact key_86 t w x hx h86 hL (fun k W hk hr hl => ih k W (by omega) hr hl)
    · by_cases h75 : x.op = 75
      · exact key_75 t w x hx h75 hL (fun k W hk hr hl => ih k W (by omega) hr hl)
      · exact key_else t w x hx h86 h75
/-- what Pub makes -/
def pubV (t : ByteArray) : Value := if rt t then wholeV (keyS t) else .tuple #[.string ⟨#[]⟩, .int .i64 10]
set_option maxRecDepth 100000 in
set_option maxHeartbeats 2000000 in
theorem pub_any (t : ByteArray) (w : World) (hm : t.size ≤ maxLen) (hL : LibOk w) : Calls Tryd.prog 6 #[.string t] w fun e w' => e = .returned (pubV t) ∧ Below w.heap.size w w' := by
  have HR := Lib.hid (right_any t w hm hL)
  have HL := Lib.hid hL
  unfold pubV rt
  cases hr : rightB t.data.toList with
  | false =>
    rw [hr] at HR
    clear hr hL
    go_enter Tryd.func6, Tryd.ntmps6
    go_wp2_with (go_at_call 24; (with_reducible refine Calls.mono HR.out ?_); rintro e w1 ⟨rfl, hb⟩; have B1 := Lib.hid hb; clear hb)
    go_ret2
    exact ⟨rfl, B1.out⟩
  | true =>
    have HK : Hid (∀ W, LibOk W → Calls Tryd.prog 26 #[.string t] W fun e w' => e = .returned (.string (keyS t)) ∧ Below W.heap.size W w') := fun W hW => key_any t.size t W (Nat.le_refl _) hr hW
    have hz : (keyS t).size ≤ maxLen := Nat.le_trans (keyS_size t hr) (by unfold maxLen; omega)
    have HW : Hid (∀ W, LibOk W → Calls Tryd.prog 25 #[.string (keyS t)] W fun e w' => e = .returned (wholeV (keyS t)) ∧ Below W.heap.size W w') := fun W hW => wholeV_any (keyS t) W hz hW
    rw [hr] at HR
    generalize keyS t = kt at HK HW ⊢
    rw [if_pos rfl]
    obtain ⟨s, n, hs⟩ : ∃ s n, wholeV kt = .tuple #[.string s, .int .i64 n] := by unfold wholeV; split <;> exact ⟨_, _, rfl⟩
    rw [hs] at HW ⊢
    clear hr hL hz hs
    go_enter Tryd.func6, Tryd.ntmps6
    go_wp2_with (first
      | (go_at_call 24; (with_reducible refine Calls.mono HR.out ?_); rintro e w1 ⟨rfl, hb⟩; have B1 := Lib.hid hb; have HL1 := Lib.hid (HL.out.below hb); clear hb)
      | (go_at_call 26; (with_reducible refine Calls.mono (HK.out _ HL1.out) ?_); rintro e w2 ⟨rfl, hb⟩; have B2 : Hid (Below w.heap.size w w2) := B1.out.trans (hb.mono B1.out.size); have HL2 := Lib.hid (HL.out.below B2.out); clear hb)
      | (go_at_call 25; (with_reducible refine Calls.mono (HW.out _ HL2.out) ?_); rintro e w3 ⟨rfl, hb⟩; have B3 : Hid (Below w.heap.size w w3) := B2.out.trans (hb.mono B2.out.size); clear hb))
    go_ret2
    exact ⟨rfl, B3.out⟩
end Go.Proofs.YtlheoipengndnabDoor
