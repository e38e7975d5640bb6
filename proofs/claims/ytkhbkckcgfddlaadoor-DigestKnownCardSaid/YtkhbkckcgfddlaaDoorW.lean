/- The digest's state: Write. -/
import Derived.Test.YtkhbkckcgfddlaaDoorC
import Derived.Deep.RegionWith
namespace Go.Proofs.YtkhbkckcgfddlaaDoor
open Go.RowKit
attribute [local go_sem] match_U match_B run_store_U run_store_B
def lenV : Value → Nat
  | .slice _ n _ => n
  | _ => 0
theorem v8_length (v : Eight) : (v.list.map U).length = 8 := rfl
theorem st_length {v : Eight} {wait : List Nat} {n : Nat} (h : wait.length = 64) : (stCells v wait n).length = 73 := by
  unfold stCells; simp [h, Eight.list]
theorem st_n {v : Eight} {wait : List Nat} {n : Nat} (h : wait.length = 64) : (stCells v wait n)[72]? = some (.int .u64 (n : Int)) := by
  unfold stCells
  rw [List.getElem?_append_right (by rw [v8_length]; omega), v8_length, List.getElem?_append_right (by simp [h]), List.length_map, h]
  rfl
theorem st_w {v : Eight} {wait : List Nat} {n j x : Nat} (h : wait[j]? = some x) : (stCells v wait n)[8 + j]? = some (B x) := by
  unfold stCells
  have hj := (List.getElem?_eq_some_iff.1 h).1
  rw [List.getElem?_append_right (by rw [v8_length]; omega), v8_length, Nat.add_sub_cancel_left, List.getElem?_append_left (by simpa using hj), List.getElem?_map, h]
  rfl
theorem st_v {v : Eight} {wait : List Nat} {n j : Nat} {x : W32} (h : v.list[j]? = some x) : (stCells v wait n)[j]? = some (U x) := by
  unfold stCells
  have hj := (List.getElem?_eq_some_iff.1 h).1
  rw [List.getElem?_append_left (by simpa using hj), List.getElem?_map, h]
  rfl
theorem wpList_copy_fr {P : Program} {w : World} {ops : Array Oper} {rest : List Oper} {o : Oper} {a : Act} {Q : Exit → Act → World → Prop} (hgd : o.guard = none) (d s : Operand) (dT sT : TypeId)
    (ho : o.op = .call { callee := .builtin .copy, args := #[d, s], argTypes := #[dT, sT] }) (elem : TypeId) (hu : P.underlying dT = some (.slice elem)) (hsz : (P.info? elem).map (·.size) = some 1)
    (g off dLen dCap : Nat) (ad : Addr) (sLen sCap : Nat) (hd : a.eval d = .slice (some ⟨g, off, none⟩) dLen dCap) (hs : a.eval s = .slice (some ad) sLen sCap)
    (cur : List Value) (t : TypeId) (hg : w.heap[g]? = some (.cells cur.toArray t (0, 0))) (cs : List Value) (k : Nat) (hk : cs.length = k) (hn : k = Nat.min sLen dLen)
    (hsrc : ∀ j v, cs[j]? = some v → w.cell? (ad.add j) = some v) (hfit : off + k ≤ cur.length) (h1 : ∀ v ∈ cs, v.oneCell' = true)
    (h : ∀ w', Hid (w'.heap[g]? = some (.cells (splice cur off cs).toArray t (0, 0))) → Hid (Fr (fun k => k = g) w w') → wpList P ops Q rest (a.put o.dst (goInt k)) w') : wpList P ops Q (o :: rest) a w := by
  subst hk
  refine wpList_copy_own hgd d s dT sT ho elem hu hsz g off dLen dCap ad sLen sCap hd hs cur.toArray t hg cs hn hsrc (by simpa using hfit) h1 ?_
  exact h _ (show _ = _ by simpa [splice] using setRow_heap w g _ _ t _ hg) ⟨rfl, rfl, rfl, by simp [World.setRow], fun k _ hk => setRow_other w g k _ hk⟩
/-- bytes laid over the waiting ones -/
theorem st_splice {v : Eight} {wait ps : List Nat} {n at_ : Nat} (h : wait.length = 64) (hk : at_ + ps.length ≤ 64) : splice (stCells v wait n) (8 + at_) (ps.map B) = stCells v (wait.take at_ ++ ps ++ wait.drop (at_ + ps.length)) n := by
  unfold splice stCells
  have h8 := v8_length v
  rw [List.length_map, List.take_append, List.take_of_length_le (by omega), h8, Nat.add_sub_cancel_left, List.take_append_of_le_length (by simp [h]; omega)]
  rw [List.drop_append, List.drop_of_length_le (l := v.list.map U) (by omega), h8, show 8 + at_ + ps.length - 8 = at_ + ps.length by omega, List.drop_append_of_le_length (by simp [h]; omega)]
  simp [List.map_take, List.map_drop]
theorem st_setn {v : Eight} {wait : List Nat} {n : Nat} (m : Nat) (h : wait.length = 64) : (stCells v wait n).toArray.setIfInBounds 72 (.int .u64 (m : Int)) = (stCells v wait m).toArray := by
  unfold stCells
  rw [List.setIfInBounds_toArray, List.set_append_right _ _ (by rw [v8_length]; omega), v8_length, List.set_append_right _ _ (by rw [List.length_map, h]; omega), List.length_map, h]
  rfl
theorem st_set8 {w : World} {b : Nat} {v : Eight} {wait : List Nat} {n : Nat} {x0 x1 x2 x3 x4 x5 x6 x7 : W32} (h : w.heap[b]? = some (.cells (stCells v wait n).toArray 45 (0, 0))) : ((((((((w.setCell ⟨b, 0, none⟩ (U x0)).setCell ⟨b, 1, none⟩ (U x1)).setCell ⟨b, 2, none⟩ (U x2)).setCell ⟨b, 3, none⟩ (U x3)).setCell ⟨b, 4, none⟩ (U x4)).setCell ⟨b, 5, none⟩ (U x5)).setCell ⟨b, 6, none⟩ (U x6)).setCell ⟨b, 7, none⟩ (U x7)).heap[b]? = some (.cells (stCells ⟨x0, x1, x2, x3, x4, x5, x6, x7⟩ wait n).toArray 45 (0, 0)) := by
  have r := h
  replace r := heap_setCell_same _ b 0 _ 45 (U x0) r
  replace r := heap_setCell_same _ b 1 _ 45 (U x1) r
  replace r := heap_setCell_same _ b 2 _ 45 (U x2) r
  replace r := heap_setCell_same _ b 3 _ 45 (U x3) r
  replace r := heap_setCell_same _ b 4 _ 45 (U x4) r
  replace r := heap_setCell_same _ b 5 _ 45 (U x5) r
  replace r := heap_setCell_same _ b 6 _ 45 (U x6) r
  replace r := heap_setCell_same _ b 7 _ 45 (U x7) r
  refine r.trans ?_
  simp [stCells, Eight.list]
theorem st_cells8 {w : World} {b : Nat} {v : Eight} {wait : List Nat} {n : Nat} (h : w.heap[b]? = some (.cells (stCells v wait n).toArray 45 (0, 0))) : w.cell? ⟨b, 0, none⟩ = some (U v.a) ∧ w.cell? ⟨b, 1, none⟩ = some (U v.b) ∧ w.cell? ⟨b, 2, none⟩ = some (U v.c) ∧ w.cell? ⟨b, 3, none⟩ = some (U v.d) ∧ w.cell? ⟨b, 4, none⟩ = some (U v.e) ∧ w.cell? ⟨b, 5, none⟩ = some (U v.f) ∧ w.cell? ⟨b, 6, none⟩ = some (U v.g) ∧ w.cell? ⟨b, 7, none⟩ = some (U v.h) := by
  have hc : ∀ (j : Nat) (x : W32), v.list[j]? = some x → w.cell? ⟨b, j, none⟩ = some (U x) := fun j x hj => by
    rw [cell_of_row _ _ _ _ _ _ h]; simpa using st_v hj
  exact ⟨hc 0 _ rfl, hc 1 _ rfl, hc 2 _ rfl, hc 3 _ rfl, hc 4 _ rfl, hc 5 _ rfl, hc 6 _ rfl, hc 7 _ rfl⟩
theorem st_next {w : World} {sb L a k : Nat} {b1 ps wait : List Nat} (hpos : 0 < sb) (hL : b1.length = L) (ha : L % 64 = a) (hk : ps.length = k) (hz : (L + k) % 64 ≠ 0) (hak : a + k ≤ 64) (hw : wait.length = 64) (ht : wait.take (a + k) = tail64 b1 ++ ps) (hr : w.heap[sb]? = some (.cells (stCells (full b1) wait (L + k)).toArray 45 (0, 0))) : StAt w sb (b1 ++ ps) := by
  have h1 : (b1.length + ps.length) / 64 = b1.length / 64 := by omega
  obtain ⟨e1, e2⟩ := full_same h1
  have hl : (b1 ++ ps).length = L + k := by rw [List.length_append, hL, hk]
  refine ⟨⟨wait, hw, ?_, ?_⟩, hpos⟩
  · rw [hl, e2, show (L + k) % 64 = a + k by omega, ht]
  · rw [hl, e1]; exact hr
theorem st_full {w : World} {sb L a k : Nat} {b1 ps wait : List Nat} (hpos : 0 < sb) (hL : b1.length = L) (ha : L % 64 = a) (hk : ps.length = k) (hak : a + k = 64) (hw : wait.length = 64) (ht : wait.take (a + k) = tail64 b1 ++ ps) (hr : w.heap[sb]? = some (.cells (stCells (takeB (full b1) wait) wait (L + k)).toArray 45 (0, 0))) : StAt w sb (b1 ++ ps) := by
  rw [hak, List.take_of_length_le (by omega)] at ht
  obtain ⟨e1, e2⟩ := full_next (b := b1) (p := ps) (by omega)
  have hl : (b1 ++ ps).length = L + k := by rw [List.length_append, hL, hk]
  refine ⟨⟨wait, hw, ?_, ?_⟩, hpos⟩
  · rw [hl, e2, show (L + k) % 64 = 0 by omega]; rfl
  · rw [hl, e1, ← ht]; exact hr
set_option maxRecDepth 100000 in
set_option maxHeartbeats 4000000 in
theorem write_any (sb : Nat) (b p : List Nat) (pa : Option Addr) (cap : Nat) (w : World) (hS : StAt w sb b) (hp : BytesAt w pa p) (hd : p ≠ [] → ∀ g o, pa = some ⟨g, o, none⟩ → g ≠ sb) (hc : p.length ≤ cap) (ht : TabAt w) (hl : b.length + p.length ≤ 4611686018427387904) :
    Calls Tryd.prog 14 #[.pointer (some ⟨sb, 0, none⟩), .slice pa p.length cap] w fun e w' => e = .returned (.tuple #[]) ∧ StAt w' sb (b ++ p) ∧ Fr (fun k => k = sb) w w' := by
  have HS := Lib.hid hS
  have HP := Lib.hid hp
  have HD := Lib.hid hd
  have HT := Lib.hid ht
  have HL := Lib.hid hl
  have hpos := hS.pos
  clear hS hp hd ht hl
  go_enter Tryd.func14, Tryd.ntmps14
  go_wp2_with fail
  go_loopw [1] (fun bv wr => ∃ (dn rest : List Nat) (pa' : Option Addr) (cap' : Nat), bv = .slice pa' rest.length cap' ∧ rest.length ≤ cap' ∧ Hid (p = dn ++ rest) ∧ Hid (BytesAt wr pa' rest) ∧ Hid (rest ≠ [] → ∀ g o, pa' = some ⟨g, o, none⟩ → g ≠ sb) ∧ Hid (StAt wr sb (b ++ dn)) ∧ Hid (Fr (fun k => k = sb) w wr)) (fun bv _ => lenV bv)
  case atStart => exact ⟨[], p, pa, cap, rfl, hc, rfl, HP.out, HD.out, by rw [List.append_nil]; exact HS.out, Fr.refl _ _⟩
  case round =>
    obtain ⟨dn, rest, pa', cap', rfl, hcap, hP, hB, hD, hSt, hF⟩ := hrel
    by_cases hr : rest.length = 0
    · have hno : ¬ (0 : Int) < (rest.length : Int) := by omega
      have hfin : Hid (b ++ p = b ++ dn) := by
        show _ = _
        rw [hP.out, List.eq_nil_of_length_eq_zero hr, List.append_nil]
      go_wp2_with fail
      refine bodyPost_end (v := .tuple #[]) (by simp [results, Tryd.results14, go_sem]) rfl ⟨rfl, ?_, hF.out⟩
      rw [hfin.out]; exact hSt.out
    · have HNE : Hid (rest ≠ []) := fun e => hr (by rw [e]; rfl)
      obtain ⟨g, o, hpa, hcell⟩ := hB.out.resolve_left (fun e => hr (by rw [e]; rfl))
      subst hpa
      obtain ⟨wait, hw, htl, hrow⟩ := hSt.out.row
      obtain ⟨L, hL⟩ : ∃ L, (b ++ dn).length = L := ⟨_, rfl⟩
      obtain ⟨a, ha⟩ : ∃ a, L % 64 = a := ⟨_, rfl⟩
      obtain ⟨n, hn⟩ : ∃ n, rest.length = n := ⟨_, rfl⟩
      rw [hL] at htl hrow
      rw [ha] at htl
      have hn0 : (0 : Int) < (n : Int) := by omega
      have ha64 : a < 64 := by omega
      have cn : wr.cell? ⟨sb, 72, none⟩ = some (.int .u64 (L : Int)) := by rw [cell_of_row _ _ _ _ _ _ hrow]; simpa using st_n hw
      have HW := Lib.hid hw
      have HTL := Lib.hid htl
      have HR := Lib.hid hrow
      have HA := Lib.hid ha
      have HLL := Lib.hid hL
      have HN := Lib.hid hn
      have hm : (L : Int) % 64 = (a : Int) := by omega
      rw [hn] at hcap ⊢
      clear hw htl hrow ha hL hn hr
      obtain ⟨k, hk⟩ : ∃ k, min n (64 - a) = k := ⟨_, rfl⟩
      have hk1 : 1 ≤ k := by omega
      have hk2 : k ≤ n := by omega
      have hk3 : a + k ≤ 64 := by omega
      have HK := Lib.hid hk
      have INF : Hid ((Tryd.prog.info? 5).map (·.size) = some 1) := by show _ = _; kernel_rfl
      have hpl : Hid ((rest.take k).length = k) := by show _ = _; rw [List.length_take]; have := HN.out; omega
      have hml : Hid (((rest.take k).map B).length = k) := by show _ = _; rw [List.length_map]; exact hpl.out
      have HSRC : Hid (∀ j v, ((rest.take k).map B)[j]? = some v → wr.cell? ((⟨g, o, none⟩ : Addr).add j) = some v) := fun j v hj => by
        have hadd : (⟨g, o, none⟩ : Addr).add j = ⟨g, o + j, none⟩ := by unfold Addr.add; split <;> simp_all
        rw [hadd]
        rw [List.getElem?_map] at hj
        obtain ⟨x, hx, rfl⟩ := Option.map_eq_some_iff.1 hj
        exact hcell j x ((List.getElem?_take_of_lt (by have := (List.getElem?_eq_some_iff.1 hx).1; rw [hpl.out] at this; exact this)).symm.trans hx)
      have ONE : Hid (∀ v ∈ (rest.take k).map B, v.oneCell' = true) := fun v hv => by
        obtain ⟨x, _, rfl⟩ := List.mem_map.1 hv
        rfl
      have hfit : 8 + a + k ≤ (stCells (full (b ++ dn)) wait L).length := by rw [st_length HW.out]; omega
      have HFIT := Lib.hid hfit
      have h64 : ¬ (64 = a) := by omega
      have hai : (a : Int) ≤ 64 := by omega
      clear hk hfit
      go_upto_region 4 with (with_reducible refine wpList_copy_fr rfl (.tmp 21) (.tmp 22) 22 22 rfl 5 Tryd.underlying22 INF.out sb (8 + a) (64 - a) (64 - a) ⟨g, o, none⟩ n cap' rfl rfl (stCells (full (b ++ dn)) wait L) 45 HR.out ((rest.take k).map B) k hml.out HK.out.symm HSRC.out HFIT.out ONE.out ?_; intro w2 hg2 hf2)
      have hkn : (k : Int) ≤ (n : Int) := by omega
      go_cut [1] from 8 to 53 (fun v wx => ∃ pa2 cap2, v = .slice pa2 (n - k) cap2 ∧ n - k ≤ cap2 ∧ (pa2 = some ⟨g, o + k, none⟩ ∨ (n = k ∧ pa2 = some ⟨g, o, none⟩)) ∧ wx = w2)
      case first =>
        go_wp2_with fail
        all_goals go_meet
        all_goals first | exact ⟨_, _, rfl, by omega, .inl rfl, rfl⟩ | exact ⟨_, _, rfl, by omega, .inr ⟨by omega, rfl⟩, rfl⟩
      case rest =>
        obtain ⟨pa2, cap2, rfl, hc2, hpa2, rfl⟩ := hcut
        have HPA := Lib.hid hpa2
        obtain ⟨wait2, hw2⟩ : ∃ x, wait.take a ++ rest.take k ++ wait.drop (a + (rest.take k).length) = x := ⟨_, rfl⟩
        have hrow2 : wc.heap[sb]? = some (.cells (stCells (full (b ++ dn)) wait2 L).toArray 45 (0, 0)) := by
          have := hg2.out
          rw [st_splice HW.out (by rw [hpl.out]; exact hk3), hw2] at this
          exact this
        have hl2 : wait2.length = 64 := by rw [← hw2]; simp [HW.out, hpl.out]; omega
        have htk : wait2.take (a + k) = tail64 (b ++ dn) ++ rest.take k := by
          rw [← hw2, List.take_append_of_le_length (by simp [HW.out, hpl.out]; omega), List.take_of_length_le (by simp [HW.out, hpl.out]; omega), HTL.out]
        have cn2 : wc.cell? ⟨sb, 72, none⟩ = some (.int .u64 (L : Int)) := by rw [cell_of_row _ _ _ _ _ _ hrow2]; simpa using st_n hl2
        have fz := frozen_of_row wc sb 72 _ 45 hrow2
        have HR2 := Lib.hid hrow2
        have HL2 := Lib.hid hl2
        have HTK := Lib.hid htk
        have hbig : L + k ≤ 4611686018427387904 := by
          have h1 := HLL.out; have h2 := HL.out; have h3 := HN.out
          have h4 : p.length = dn.length + rest.length := by rw [hP.out, List.length_append]
          rw [List.length_append] at h1
          omega
        have hcv : IntKind.u64.wrap (k : Int) = (k : Int) := by simp [IntKind.wrap, IntKind.bits, IntKind.signed]; omega
        have hcw : IntKind.u64.wrap ((L : Int) + (k : Int)) = (L : Int) + (k : Int) := by simp [IntKind.wrap, IntKind.bits, IntKind.signed]; omega
        clear hrow2 hl2 htk hbig hw2 hpa2 hg2
        have HNA : Hid (rest.drop k ≠ [] → ∀ g' o', pa2 = some ⟨g', o', none⟩ → g' ≠ sb) := fun _ g' o' e => by
          rcases HPA.out with h | ⟨_, h⟩
          · rw [h] at e; cases e; exact hD.out HNE.out _ _ rfl
          · rw [h] at e; cases e; exact hD.out HNE.out _ _ rfl
        have HBA : Hid (∀ wx : World, Fr (fun k => k = sb) wr wx → True → BytesAt wx pa2 (rest.drop k)) := fun wx hf _ => by
          rcases HPA.out with h | ⟨h, _⟩
          · refine .inr ⟨g, o + k, h, fun j x hj => hf.cell (hD.out HNE.out _ _ rfl) ?_⟩
            rw [List.getElem?_drop] at hj
            rw [Nat.add_assoc]
            exact hcell _ _ hj
          · exact .inl (List.eq_nil_of_length_eq_zero (by rw [List.length_drop, HN.out]; omega))
        have HCELL := Lib.hid hcell
        clear hcell
        by_cases hz : (L + k) % 64 = 0
        · have hmz : ((L : Int) + (k : Int)) % 64 = 0 := by omega
          go_upto_region 7 with fail
          have hr3 : Hid ((wc.setCell ⟨sb, 72, none⟩ (.int .u64 ((L : Int) + (k : Int)))).heap[sb]? = some (.cells (stCells (full (b ++ dn)) wait2 (L + k)).toArray 45 (0, 0))) := by
            have := heap_setCell_same wc sb 72 _ 45 (.int .u64 ((L : Int) + (k : Int))) HR2.out
            rw [show ((L : Int) + (k : Int)) = ((L + k : Nat) : Int) from rfl, st_setn (L + k) HL2.out] at this
            exact this
          have hf3 : Hid (Fr (fun k => k = sb) wr (wc.setCell ⟨sb, 72, none⟩ (.int .u64 ((L : Int) + (k : Int))))) := hf2.out.set _ _ fun _ => rfl
          generalize wc.setCell ⟨sb, 72, none⟩ (.int .u64 ((L : Int) + (k : Int))) = w3 at hr3 hf3 ⊢
          have T3 : Hid (TabAt w3) := (HT.out.fr hF.out (by omega)).fr hf3.out (by omega)
          obtain ⟨a0, a1, a2, a3, a4, a5, a6, a7⟩ := st_cells8 hr3.out
          have fz8 := fun j => frozen_of_row w3 sb j _ 45 hr3.out
          have HTAKE : Hid (∀ wx : World, Below w3.heap.size w3 wx → Calls Tryd.prog 18 #[.agg #[U (full (b ++ dn)).a, U (full (b ++ dn)).b, U (full (b ++ dn)).c, U (full (b ++ dn)).d, U (full (b ++ dn)).e, U (full (b ++ dn)).f, U (full (b ++ dn)).g, U (full (b ++ dn)).h], .slice (some ⟨sb, 8, none⟩) 64 64] wx fun e w' => e = .returned (takeB (full (b ++ dn)) wait2).val ∧ Below wx.heap.size wx w') := fun wx hb => by
            refine take_any (full (b ++ dn)) sb 8 64 wait2 wx HL2.out (fun j x hj => cell_later hb ?_) (T3.out.below hb)
            rw [cell_of_row _ _ _ _ _ _ hr3.out]
            simpa using st_w hj
          obtain ⟨v, hv⟩ : ∃ v, takeB (full (b ++ dn)) wait2 = v := ⟨_, rfl⟩
          rw [hv] at HTAKE
          have HV := Lib.hid hv
          unfold Eight.val at HTAKE
          have hlt3 : sb < w3.heap.size := lt_of_heap hr3.out
          clear hv fz cn2
          go_region_with (go_at_call 18; (with_reducible refine Calls.mono (HTAKE.out _ (by repeat (first | (with_reducible exact Below.refl _ _) | (with_reducible refine Below.drew ?_)))) ?_); rintro e w4 ⟨rfl, hb4⟩; have HR4 : Hid (w4.heap[sb]? = some (.cells (stCells (full (b ++ dn)) wait2 (L + k)).toArray 45 (0, 0))) := (hb4.block sb hlt3).trans hr3.out; have HB4 : Hid (Below w3.heap.size w3 w4) := (Below.refl w3.heap.size w3).drew.trans hb4; obtain ⟨d0, d1, d2, d3, d4, d5, d6, d7⟩ := st_cells8 HR4.out; have ff := fun j => frozen_of_row w4 sb j _ 45 HR4.out; clear hb4)
          have hfr := set8_fr w4 sb (U v.a) (U v.b) (U v.c) (U v.d) (U v.e) (U v.f) (U v.g) (U v.h)
          have hblk : ((((((((w4.setCell ⟨sb, 0, none⟩ (U v.a)).setCell ⟨sb, 1, none⟩ (U v.b)).setCell ⟨sb, 2, none⟩ (U v.c)).setCell ⟨sb, 3, none⟩ (U v.d)).setCell ⟨sb, 4, none⟩ (U v.e)).setCell ⟨sb, 5, none⟩ (U v.f)).setCell ⟨sb, 6, none⟩ (U v.g)).setCell ⟨sb, 7, none⟩ (U v.h)).heap[sb]? = some (.cells (stCells v wait2 (L + k)).toArray 45 (0, 0)) := st_set8 HR4.out
          generalize ((((((((w4.setCell ⟨sb, 0, none⟩ (U v.a)).setCell ⟨sb, 1, none⟩ (U v.b)).setCell ⟨sb, 2, none⟩ (U v.c)).setCell ⟨sb, 3, none⟩ (U v.d)).setCell ⟨sb, 4, none⟩ (U v.e)).setCell ⟨sb, 5, none⟩ (U v.f)).setCell ⟨sb, 6, none⟩ (U v.g)).setCell ⟨sb, 7, none⟩ (U v.h)) = w5 at hfr hblk ⊢
          have HFR : Hid (Fr (fun k => k = sb) wr w5) := (hf3.out.trans' (Fr.below (S := fun _ => False) HB4.out) (fun _ _ h => h.elim)).trans hfr
          have HBK := Lib.hid hblk
          clear hfr hblk d0 d1 d2 d3 d4 d5 d6 d7 ff a0 a1 a2 a3 a4 a5 a6 a7 fz8
          go_wp2_with fail
          go_roundw
          case rel =>
            refine ⟨dn ++ rest.take k, rest.drop k, pa2, cap2, by rw [List.length_drop, HN.out], by rw [List.length_drop, HN.out]; exact hc2, by show _ = _; rw [List.append_assoc, List.take_append_drop]; exact hP.out, ?_, ?_, ?_, ?_⟩
            · exact HBA.out _ HFR.out trivial
            · exact HNA.out
            · rw [← List.append_assoc]
              exact st_full hpos HLL.out HA.out hpl.out (by omega) HL2.out HTK.out (by rw [HV.out]; exact HBK.out)
            · exact hF.out.trans HFR.out
          case measure =>
            show n - k < n
            omega
        · have hmz : (((L : Int) + (k : Int)) % 64 == 0) = false := by
            rw [beq_eq_false_iff_ne]; omega
          go_wp2_with fail
          go_roundw
          case rel =>
            refine ⟨dn ++ rest.take k, rest.drop k, pa2, cap2, by rw [List.length_drop, HN.out], by rw [List.length_drop, HN.out]; exact hc2, by show _ = _; rw [List.append_assoc, List.take_append_drop]; exact hP.out, ?_, ?_, ?_, ?_⟩
            · exact HBA.out _ (hf2.out.set _ _ fun _ => rfl) trivial
            · exact HNA.out
            · rw [← List.append_assoc]
              exact st_next hpos HLL.out HA.out hpl.out hz hk3 HL2.out HTK.out (by have := heap_setCell_same wc sb 72 _ 45 (.int .u64 ((L : Int) + (k : Int))) HR2.out; rw [show ((L : Int) + (k : Int)) = ((L + k : Nat) : Int) from rfl, st_setn (L + k) HL2.out] at this; exact this)
            · exact hF.out.trans (hf2.out.set _ _ fun _ => rfl)
          case measure =>
            show n - k < n
            omega
end Go.Proofs.YtkhbkckcgfddlaaDoor
