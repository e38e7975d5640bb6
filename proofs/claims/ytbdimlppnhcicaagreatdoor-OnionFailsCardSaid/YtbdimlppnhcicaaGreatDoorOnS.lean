/- the examples work -/
import Derived.Test.YtbdimlppnhcicaaGreatDoorOnR
import Derived.Test.YtbdimlppnhcicaaGreatDoorOnM
namespace Go.Proofs.YtbdimlppnhcicaaGreatDoor
set_option linter.unusedVariables false
open Go.RowKit
/-! onion: the examples work -/
def xn1 : ByteArray := ⟨#[110, 49, 59]⟩
def xn2 : ByteArray := ⟨#[110, 50, 59]⟩
def xn11 : ByteArray := ⟨#[110, 49, 49, 59]⟩
def xn12 : ByteArray := ⟨#[110, 49, 50, 59]⟩
def xhn9 : ByteArray := ⟨#[72, 110, 57, 59]⟩
def hop1 : Hp := ⟨⟨#[99, 48]⟩, ⟨#[80, 110, 49, 49, 59]⟩, 1010, 50⟩
def hop2 : Hp := ⟨⟨#[99, 49]⟩, ⟨#[80, 110, 49, 50, 59]⟩, 1000, 40⟩
def xkey1 : ByteArray := ⟨#[88, 110, 49, 49, 59, 110, 49, 59]⟩
def xkey2 : ByteArray := ⟨#[88, 110, 49, 50, 59, 110, 50, 59]⟩
def xpack : ByteArray := (buildR [xn1, xn2] [hop1, hop2] xhn9).1
def xlay1 : Lay := (peelE xn11 xpack none).2.1
set_option maxRecDepth 100000 in
theorem ex_build : buildR [xn1, xn2] [hop1, hop2] xhn9 = (xpack, [xkey1, xkey2], 0) := by
  have h1 : (buildR [xn1, xn2] [hop1, hop2] xhn9).2 = ([xkey1, xkey2], 0) := by kernel_rfl
  exact Prod.ext rfl h1
set_option maxRecDepth 100000 in
theorem ex_peel1 : peelE xn11 xpack none = (0, ⟨⟨#[99, 49]⟩, 1000, 40, e0, xlay1.inner, false⟩, xkey1) := by kernel_rfl
set_option maxRecDepth 100000 in
theorem ex_peel2 : peelE xn12 xlay1.inner none = (0, ⟨e0, 1000, 40, xhn9, e0, true⟩, xkey2) := by kernel_rfl
def xlit : ByteArray := ⟨([84, 50, 58, 80, 110, 49, 59, 66, 88, 110, 49, 49, 59, 110, 49, 59, 84, 50, 58, 84, 52, 58, 116, 50, 58, 99, 49, 116, 52, 58, 49, 48, 48, 48, 116, 50, 58, 52, 48, 84, 48, 58, 84].append [50, 58, 80, 110, 50, 59, 66, 88, 110, 49, 50, 59, 110, 50, 59, 84, 50, 58, 84, 52, 58, 116, 48, 58, 116, 52, 58, 49, 48, 48, 48, 116, 50, 58, 52, 48, 72, 110, 57, 59, 84, 48, 58]).toArray⟩
set_option maxRecDepth 100000 in
theorem ex_pack : xpack = xlit := by kernel_rfl
set_option maxRecDepth 100000 in
theorem ex_sizes : xpack.size ≤ 1000 ∧ xlay1.inner.size ≤ 1000 := ⟨Nat.le_of_ble_eq_true (by kernel_rfl), Nat.le_of_ble_eq_true (by kernel_rfl)⟩
theorem hopsAt_two {w : World} {g : Nat} (h : w.heap[g]? = some (.cells #[.string ⟨#[99, 48]⟩, .string ⟨#[80, 110, 49, 49, 59]⟩, .int .i64 1010, .int .i64 50, .string ⟨#[99, 49]⟩, .string ⟨#[80, 110, 49, 50, 59]⟩, .int .i64 1000, .int .i64 40] 49 (0, 0))) : HopsAt (some ⟨g, 0, none⟩) [hop1, hop2] w := by
  refine .inr ⟨g, 0, rfl, fun k x hk => ?_⟩
  match k, hk with
  | 0, hk =>
    cases hk
    refine ⟨fun j u hj => ?_, by decide, by decide⟩
    match j, hj with
    | 0, hj | 1, hj | 2, hj | 3, hj => cases hj; simp [World.cell?, h] <;> rfl
  | 1, hk =>
    cases hk
    refine ⟨fun j u hj => ?_, by decide, by decide⟩
    match j, hj with
    | 0, hj | 1, hj | 2, hj | 3, hj => cases hj; simp [World.cell?, h] <;> rfl
set_option maxRecDepth 100000 in
set_option maxHeartbeats 4000000 in
theorem hops_any (w : World) : Calls Tryz.prog 55 #[] w fun e w' => ∃ o c, e = .returned (.slice o 2 c) ∧ HopsAt o [hop1, hop2] w' ∧ Below w.heap.size w w' := by
  go_enter Tryz.func55, Tryz.ntmps55
  go_wp2_with fail
  go_ret
  refine ⟨_, _, rfl, hopsAt_two (heap_alloc_at w _), below_new' w _⟩
set_option maxRecDepth 100000 in
set_option maxHeartbeats 8000000 in
theorem works_onion (w : World) (hL : LibOk w) (hT : Tab w) : Calls Tryz.prog 11 #[] w fun e w' => e = .returned (.bool true) ∧ Below w.heap.size w w' := by
  have HB : Hid (∀ W o c g, StrsAt (some ⟨g, 0, none⟩) [xn1, xn2] W → HopsAt o [hop1, hop2] W → Below w.heap.size w W → Calls Tryz.prog 54 #[.slice (some ⟨g, 0, none⟩) 2 2, .slice o 2 c, .string ⟨#[72, 110, 57, 59]⟩] W (BuildPost (xpack, [xkey1, xkey2], 0) W)) := fun W o c g h1 h2 hW => by
    have := obuild_any (some ⟨g, 0, none⟩) [xn1, xn2] 2 o [hop1, hop2] c xhn9 W (by simp) (by simp) h1 (by intro d hd; simp only [List.mem_cons, List.not_mem_nil, or_false] at hd; rcases hd with rfl | rfl <;> decide) h2 (by decide) (hL.below hW) (hT.below hW)
    rw [ex_build] at this
    exact this
  have HP1 : Hid (∀ W, Below w.heap.size w W → Calls Tryz.prog 56 #[.string ⟨#[110, 49, 49, 59]⟩, .string xpack, .pointer none] W fun e w' => e = .returned (.tuple #[.agg #[.string ⟨#[99, 49]⟩, .int .i64 1000, .int .i64 40, .string ⟨#[]⟩, .string xlay1.inner, .string xkey1, .bool false], .int .i64 0]) ∧ Below W.heap.size W w') := fun W hW => (opeel_nil xn11 xpack W (by decide) (Nat.le_trans ex_sizes.1 (by decide)) (hL.below hW) (hT.below hW)).mono fun _ _ h => ⟨by rw [h.1, ex_peel1]; rfl, h.2⟩
  have HP2 : Hid (∀ W, Below w.heap.size w W → Calls Tryz.prog 56 #[.string ⟨#[110, 49, 50, 59]⟩, .string xlay1.inner, .pointer none] W fun e w' => e = .returned (.tuple #[.agg #[.string ⟨#[]⟩, .int .i64 1000, .int .i64 40, .string ⟨#[72, 110, 57, 59]⟩, .string ⟨#[]⟩, .string xkey2, .bool true], .int .i64 0]) ∧ Below W.heap.size W w') := fun W hW => (opeel_nil xn12 xlay1.inner W (by decide) (Nat.le_trans ex_sizes.2 (by decide)) (hL.below hW) (hT.below hW)).mono fun _ _ h => ⟨by rw [h.1, ex_peel2]; rfl, h.2⟩
  clear hL hT
  obtain ⟨P, hP⟩ : ∃ P, xpack = P := ⟨_, rfl⟩
  obtain ⟨I, hI⟩ : ∃ P, xlay1.inner = P := ⟨_, rfl⟩
  rw [hP] at HB HP1
  rw [hI] at HP1 HP2
  have HPK := Lib.hid hP
  clear hI hP
  go_enter Tryz.func11, Tryz.ntmps11
  go_upto_region 2 with (first
    | (go_at_call 55; (with_reducible refine Calls.mono (hops_any _) ?_); rintro e w1 ⟨o, c, rfl, hH, hb⟩; have B1 := Lib.hid ((below_new' w (.cells #[.string ⟨#[110, 49, 59]⟩, .string ⟨#[110, 50, 59]⟩] 23)).trans (hb.mono (by simp))); have S1 : Hid (StrsAt (some ⟨w.heap.size, 0, none⟩) [xn1, xn2] w1) := (strs_two _ _ w).below hb; have H1 := Lib.hid hH; clear hb hH)
    | (go_at_call 54; (with_reducible refine Calls.mono (HB.out _ _ _ _ S1.out H1.out B1.out) ?_); rintro e w2 ⟨hb, v, rfl, hown⟩; have B2 := Lib.hid (B1.out.trans (hb.mono B1.out.size)); have O2 := Lib.hid hown; clear hb hown))
  obtain ⟨g, cap, hv, hge, hrow⟩ := own_cells O2.out (by decide)
  cases hv
  have r0 := hrow 0 _ rfl
  have r1 := hrow 1 _ rfl
  have HO2 : Hid (StrsAt (some ⟨g, 0, none⟩) [xkey1, xkey2] w2) := .inr ⟨g, 0, rfl, fun k s hk => by rw [Nat.zero_add]; exact hrow k _ (by rw [List.getElem?_map, hk]; rfl)⟩
  clear hrow hge r1 S1 H1 O2
  go_upto_region 3 with (go_at_call 56; (with_reducible refine Calls.mono (HP1.out _ B2.out) ?_); rintro e w3 ⟨rfl, hb⟩; have B3 := Lib.hid (B2.out.trans (hb.mono B2.out.size)); replace r0 := cell_later hb r0; replace HO2 : Hid (StrsAt (some ⟨g, 0, none⟩) [xkey1, xkey2] w3) := HO2.out.below hb; clear hb)
  have b4 := below_new' w3 (.cells #[.string ⟨#[99, 49]⟩, .int .i64 1000, .int .i64 40, .string ⟨#[]⟩, .string I, .string xkey1, .bool false] 111)
  have K4 := heap_alloc_at w3 (.cells #[.string ⟨#[99, 49]⟩, .int .i64 1000, .int .i64 40, .string ⟨#[]⟩, .string I, .string xkey1, .bool false] 111)
  have B4 := Lib.hid (B3.out.trans (b4.mono B3.out.size))
  replace r0 := cell_later b4 r0
  replace HO2 : Hid (StrsAt (some ⟨g, 0, none⟩) [xkey1, xkey2] (w3.alloc (.cells #[.string ⟨#[99, 49]⟩, .int .i64 1000, .int .i64 40, .string ⟨#[]⟩, .string I, .string xkey1, .bool false] 111))) := HO2.out.below b4
  clear b4
  generalize w3.alloc (.cells #[.string ⟨#[99, 49]⟩, .int .i64 1000, .int .i64 40, .string ⟨#[]⟩, .string I, .string xkey1, .bool false] 111) = w4 at K4 B4 HO2 r0 ⊢
  generalize w3.heap.size = ka at K4 ⊢
  have HK4 := Lib.hid K4
  have i4 := (seven_mid K4).2
  clear K4
  go_upto_region 4 with (go_at_call 56; (with_reducible refine Calls.mono (HP2.out _ B4.out) ?_); rintro e w5 ⟨rfl, hb⟩; have B5 := Lib.hid (B4.out.trans (hb.mono B4.out.size)); have K5 := Lib.hid ((hb.block _ (lt_of_heap HK4.out)).trans HK4.out); replace r0 := cell_later hb r0; replace HO2 : Hid (StrsAt (some ⟨g, 0, none⟩) [xkey1, xkey2] w5) := HO2.out.below hb; clear hb i4)
  have b6 := below_new' w5 (.cells #[.string ⟨#[]⟩, .int .i64 1000, .int .i64 40, .string ⟨#[72, 110, 57, 59]⟩, .string ⟨#[]⟩, .string xkey2, .bool true] 111)
  have K6 := heap_alloc_at w5 (.cells #[.string ⟨#[]⟩, .int .i64 1000, .int .i64 40, .string ⟨#[72, 110, 57, 59]⟩, .string ⟨#[]⟩, .string xkey2, .bool true] 111)
  have L6 := (b6.block _ (lt_of_heap K5.out)).trans K5.out
  have B6 := Lib.hid (B5.out.trans (b6.mono B5.out.size))
  replace r0 := cell_later b6 r0
  replace HO2 : Hid (StrsAt (some ⟨g, 0, none⟩) [xkey1, xkey2] (w5.alloc (.cells #[.string ⟨#[]⟩, .int .i64 1000, .int .i64 40, .string ⟨#[72, 110, 57, 59]⟩, .string ⟨#[]⟩, .string xkey2, .bool true] 111))) := HO2.out.below b6
  clear b6
  generalize w5.alloc (.cells #[.string ⟨#[]⟩, .int .i64 1000, .int .i64 40, .string ⟨#[72, 110, 57, 59]⟩, .string ⟨#[]⟩, .string xkey2, .bool true] 111) = w6 at K6 L6 B6 HO2 r0 ⊢
  generalize w5.heap.size = kb at K6 ⊢
  have hpl : P = ⟨([84, 50, 58, 80, 110, 49, 59, 66, 88, 110, 49, 49, 59, 110, 49, 59, 84, 50, 58, 84, 52, 58, 116, 50, 58, 99, 49, 116, 52, 58, 49, 48, 48, 48, 116, 50, 58, 52, 48, 84, 48, 58, 84].append [50, 58, 80, 110, 50, 59, 66, 88, 110, 49, 50, 59, 110, 50, 59, 84, 50, 58, 84, 52, 58, 116, 48, 58, 116, 52, 58, 49, 48, 48, 48, 116, 50, 58, 52, 48, 72, 110, 57, 59, 84, 48, 58]).toArray⟩ := HPK.out.symm.trans ex_pack
  subst hpl
  have KQ : Hid (∀ W, Below w6.heap.size w6 W → W.cell? ⟨ka, 0, none⟩ = some (.string ⟨#[99, 49]⟩) ∧ W.cell? ⟨ka, 1, none⟩ = some (.int .i64 1000) ∧ W.cell? ⟨ka, 2, none⟩ = some (.int .i64 40) ∧ W.cell? ⟨ka, 5, none⟩ = some (.string xkey1) ∧ W.cell? ⟨ka, 6, none⟩ = some (.bool false) ∧ W.cell? ⟨kb, 1, none⟩ = some (.int .i64 1000) ∧ W.cell? ⟨kb, 3, none⟩ = some (.string ⟨#[72, 110, 57, 59]⟩) ∧ W.cell? ⟨kb, 6, none⟩ = some (.bool true) ∧ W.cell? ⟨g, 0, none⟩ = some (.string xkey1)) := fun W hW => by
    obtain ⟨k0, k1, k2, k3, k4, k5, k6⟩ := seven_all L6
    obtain ⟨y0, y1, y2, y3, y4, y5, y6⟩ := seven_all K6
    exact ⟨cell_later hW k0, cell_later hW k1, cell_later hW k2, cell_later hW k5, cell_later hW k6, cell_later hW y1, cell_later hW y3, cell_later hW y6, cell_later hW r0⟩
  have HST : Hid (Calls Tryz.prog 57 #[.slice (some ⟨g, 0, none⟩) 2 cap, .slice (some ⟨w6.heap.size, 0, none⟩) 2 2] (w6.alloc (.cells #[.string ⟨#[88, 110, 49, 49, 59, 110, 49, 59]⟩, .string ⟨#[88, 110, 49, 50, 59, 110, 50, 59]⟩] 23)).drew fun e w' => e = .returned (.bool true) ∧ Below w6.heap.size w6 w') := by
    have hb := (below_new' w6 (.cells #[.string ⟨#[88, 110, 49, 49, 59, 110, 49, 59]⟩, .string ⟨#[88, 110, 49, 50, 59, 110, 50, 59]⟩] 23)).drew
    have := sterms_any (some ⟨g, 0, none⟩) [xkey1, xkey2] cap (some ⟨w6.heap.size, 0, none⟩) [xkey1, xkey2] 2 (w6.alloc (.cells #[.string ⟨#[88, 110, 49, 49, 59, 110, 49, 59]⟩, .string ⟨#[88, 110, 49, 50, 59, 110, 50, 59]⟩] 23)).drew (HO2.out.below hb) ((strs_two xkey1 xkey2 w6).below (Below.refl _ _).drew) (by simp) (by simp)
    exact this.mono fun _ _ h => ⟨by rw [h.1]; simp, hb.trans (h.2.mono hb.size)⟩
  obtain ⟨q0, q1, q2, q3, q4, q5, q6, q7, q8⟩ := KQ.out _ (Below.refl w6.heap.size w6).drew
  clear L6 K6 r0 HO2 HP1 HP2 HPK
  go_region_held3 (fun w' => w'.cell? ⟨ka, 0, none⟩ = some (.string ⟨#[99, 49]⟩) ∧ w'.cell? ⟨ka, 1, none⟩ = some (.int .i64 1000) ∧ w'.cell? ⟨ka, 2, none⟩ = some (.int .i64 40) ∧ w'.cell? ⟨ka, 5, none⟩ = some (.string xkey1) ∧ w'.cell? ⟨ka, 6, none⟩ = some (.bool false) ∧ w'.cell? ⟨kb, 1, none⟩ = some (.int .i64 1000) ∧ w'.cell? ⟨kb, 3, none⟩ = some (.string ⟨#[72, 110, 57, 59]⟩) ∧ w'.cell? ⟨kb, 6, none⟩ = some (.bool true) ∧ w'.cell? ⟨g, 0, none⟩ = some (.string xkey1))
    (first | exact KQ.out _ (by assumption) | exact KQ.out _ (Below.refl _ _).drew | exact KQ.out _ (below_new' _ _).drew | go_keep)
    ((go_at_call 57; (with_reducible refine Calls.mono HST.out ?_); rintro y w7 ⟨rfl, Zb⟩))
  all_goals go_wp2_with fail
  all_goals go_ret
  all_goals exact ⟨by simp, B6.out.trans (Zb.mono B6.out.size)⟩
end Go.Proofs.YtbdimlppnhcicaaGreatDoor
