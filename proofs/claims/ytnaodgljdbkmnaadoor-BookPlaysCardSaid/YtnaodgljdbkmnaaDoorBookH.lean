/- slices.DeleteFunc -/
import Derived.Test.YtnaodgljdbkmnaaDoorBookG
import Derived.Lib.SliceRun
namespace Go.Proofs.YtnaodgljdbkmnaaDoor
set_option linter.unusedVariables false
open Go.RowKit
theorem setCells_block (g : Nat) (t : TypeId) : ∀ (vs : List Value) (o : Nat) (w : World) (cur : Array Value), w.heap[g]? = some (.cells cur t (0, 0)) → o + vs.length ≤ cur.size →
    ∃ cur' : Array Value, (w.setCells g o vs).heap[g]? = some (.cells cur' t (0, 0)) ∧ cur'.size = cur.size ∧ ∀ k, cur'[k]? = if o ≤ k ∧ k < o + vs.length then vs[k - o]? else cur[k]?
  | [], o, w, cur, h, _ => ⟨cur, h, rfl, fun k => by rw [if_neg (by intro h; simp at h; omega)]⟩
  | v :: vs, o, w, cur, h, hl => by
    have h1 : (w.setCell ⟨g, o, none⟩ v).heap[g]? = some (.cells (cur.setIfInBounds o v) t (0, 0)) := by simp [World.setCell, Array.getElem?_modify, h]
    simp only [List.length_cons] at hl
    obtain ⟨cur', h2, h3, h4⟩ := setCells_block g t vs (o + 1) _ _ h1 (by simp; omega)
    refine ⟨cur', h2, by simpa using h3, fun k => ?_⟩
    rw [h4 k]
    simp only [List.length_cons]
    by_cases hk : k = o
    · subst hk
      rw [if_neg (by omega), if_pos (by omega), Nat.sub_self, Array.getElem?_setIfInBounds, if_pos rfl, if_pos (by omega)]
      rfl
    · by_cases h5 : o + 1 ≤ k ∧ k < o + 1 + vs.length
      · rw [if_pos h5, if_pos (by omega), show k - o = (k - (o + 1)) + 1 by omega, List.getElem?_cons_succ]
      · rw [if_neg h5, if_neg (by omega), Array.getElem?_setIfInBounds, if_neg (fun e => hk e.symm)]
theorem setCells_fr (g : Nat) : ∀ (vs : List Value) (o : Nat) (a w : World) {S : Nat → Prop}, Fr S a w → S g → Fr S a (w.setCells g o vs)
  | [], _, _, _, _, h, _ => h
  | v :: vs, o, a, w, _, h, hs => setCells_fr g vs (o + 1) a _ (h.set' ⟨g, o, none⟩ v (fun _ => hs)) hs
/-- the bills of the first j that are kept -/
def kept (now : Int) (L : List Ent) (j : Nat) : List Ent := (L.take j).filter (kp now)
theorem kept_succ {now : Int} {L : List Ent} {j : Nat} {e : Ent} (h : L[j]? = some e) : kept now L (j + 1) = kept now L j ++ (if kp now e = true then [e] else []) := by
  have hj := (List.getElem?_eq_some_iff.1 h).1
  have he : L[j] = e := by rw [List.getElem?_eq_getElem hj] at h; exact Option.some.inj h
  unfold kept
  rw [List.take_succ_eq_append_getElem hj, List.filter_append, he]
  congr 1
  by_cases hk : kp now e = true
  · rw [if_pos hk]; simp [hk]
  · rw [if_neg hk]; simp [hk]
theorem kept_all {now : Int} {L : List Ent} {i : Nat} (h : ∀ a ∈ L.take i, kp now a = true) : kept now L i = L.take i := List.filter_eq_self.2 h
theorem drop_at {L : List Ent} {j : Nat} {e : Ent} (h : L[j]? = some e) : L.drop j = e :: L.drop (j + 1) := by
  have hj := (List.getElem?_eq_some_iff.1 h).1
  have he : L[j] = e := by rw [List.getElem?_eq_getElem hj] at h; exact Option.some.inj h
  rw [List.drop_eq_getElem_cons hj, he]
/-- what lies in the map while Prune goes -/
def left (now : Int) (L : List Ent) (j : Nat) : List Ent := kept now L j ++ L.drop j
theorem left_sub (now : Int) (L : List Ent) (j : Nat) : (left now L j).Sublist L := by
  have h : (left now L j).Sublist (L.take j ++ L.drop j) := List.Sublist.append List.filter_sublist (List.Sublist.refl _)
  rwa [List.take_append_drop] at h
theorem left_find {now : Int} {L : List Ent} (hu : (L.map (·.2.hash)).Nodup) {j : Nat} {e : Ent} (h : L[j]? = some e) : findB e.2.hash (left now L j) 0 = some ((kept now L j).length, e) := by
  have hu' : ((left now L j).map (·.2.hash)).Nodup := List.Nodup.sublist ((left_sub now L j).map _) hu
  have := findB_at hu' (k := (kept now L j).length) (e := e) 0 (by unfold left; rw [drop_at h, List.getElem?_append_right (Nat.le_refl _), Nat.sub_self]; rfl)
  rw [this, Nat.zero_add]
theorem left_keep {now : Int} {L : List Ent} {j : Nat} {e : Ent} (h : L[j]? = some e) (hk : kp now e = true) : left now L (j + 1) = left now L j := by
  unfold left
  rw [kept_succ h, if_pos hk, drop_at h]; simp
theorem left_drop {now : Int} {L : List Ent} {j : Nat} {e : Ent} (h : L[j]? = some e) (hk : kp now e = false) : left now L (j + 1) = (left now L j).eraseIdx (kept now L j).length := by
  unfold left
  rw [kept_succ h, if_neg (by rw [hk]; decide), drop_at h, List.eraseIdx_append_of_length_le (Nat.le_refl _), Nat.sub_self]; simp
theorem kept_le (now : Int) (L : List Ent) (j : Nat) : (kept now L j).length ≤ j := Nat.le_trans (List.length_filter_le _ _) (by rw [List.length_take]; omega)
/-- the row while Prune goes -/
structure RowP (w : World) (g cap : Nat) (now : Int) (L : List Ent) (j : Nat) : Prop where
  row : ∃ cur : Array Value, w.heap[g]? = some (.cells cur 22 (0, 0)) ∧ cur.size = cap ∧ (∀ (t : Nat) (e : Ent), (kept now L j)[t]? = some e → cur[t]? = some (Value.string e.2.hash)) ∧ (∀ (t : Nat) (e : Ent), j ≤ t → L[t]? = some e → cur[t]? = some (Value.string e.2.hash))
theorem RowP.fr {w w' : World} {g cap : Nat} {now : Int} {L : List Ent} {j : Nat} {S : Nat → Prop} (h : RowP w g cap now L j) (f : Fr S w w') (hs : ¬ S g) : RowP w' g cap now L j := by
  obtain ⟨cur, a, b, c, d⟩ := h.row
  exact ⟨cur, (f.block g (lt_of_heap a) hs).trans a, b, c, d⟩
theorem RowP.keep {w : World} {g cap : Nat} {now : Int} {L : List Ent} {j : Nat} {e : Ent} (h : RowP w g cap now L j) (he : L[j]? = some e) (hk : kp now e = true) (hc : L.length ≤ cap) : RowP (w.setCell ⟨g, (kept now L j).length, none⟩ (.string e.2.hash)) g cap now L (j + 1) := by
  obtain ⟨cur, a, b, c, d⟩ := h.row
  have hl := kept_le now L j
  have hj := (List.getElem?_eq_some_iff.1 he).1
  refine ⟨cur.setIfInBounds (kept now L j).length (.string e.2.hash), by simp [World.setCell, Array.getElem?_modify, a], by simpa using b, ?_, ?_⟩
  · intro t x hx
    rw [kept_succ he, if_pos hk] at hx
    by_cases ht : t < (kept now L j).length
    · rw [List.getElem?_append_left ht] at hx
      rw [Array.getElem?_setIfInBounds, if_neg (by omega)]
      exact c t x hx
    · rw [List.getElem?_append_right (by omega)] at hx
      have ht' : t = (kept now L j).length := by
        have := (List.getElem?_eq_some_iff.1 hx).1
        simp at this; omega
      subst ht'
      simp at hx; subst hx
      rw [Array.getElem?_setIfInBounds, if_pos rfl, if_pos (by omega)]
  · intro t x ht hx
    rw [Array.getElem?_setIfInBounds, if_neg (by omega)]
    exact d t x (by omega) hx
theorem RowP.drop {w : World} {g cap : Nat} {now : Int} {L : List Ent} {j : Nat} {e : Ent} (h : RowP w g cap now L j) (he : L[j]? = some e) (hk : kp now e = false) : RowP w g cap now L (j + 1) := by
  obtain ⟨cur, a, b, c, d⟩ := h.row
  refine ⟨cur, a, b, fun t x hx => ?_, fun t x ht hx => d t x (by omega) hx⟩
  rw [kept_succ he, if_neg (by rw [hk]; decide), List.append_nil] at hx
  exact c t x hx
theorem RowP.start {w : World} {base g cap : Nat} {now : Int} {L : List Ent} {i : Nat} {e : Ent} (h : w.ownsRow base 22 1 (.slice (some ⟨g, 0, none⟩) L.length cap) L.length (L.map fun e => .string e.2.hash)) (he : L[i]? = some e) (hA : ∀ a ∈ L.take i, kp now a = true) (hk : kp now e = false) : RowP w g cap now L (i + 1) := by
  have hi := (List.getElem?_eq_some_iff.1 he).1
  obtain ⟨g', cap', cur, hv, _, hh, hc, _, hs, ht⟩ := row_cellsG h (by omega)
  cases hv
  have hat : ∀ (t : Nat) (x : Ent), L[t]? = some x → cur[t]? = some (Value.string x.2.hash) := fun t x hx => by
    rw [ht t (by have := (List.getElem?_eq_some_iff.1 hx).1; omega), List.getElem?_map, hx]; rfl
  refine ⟨cur, hh, by omega, fun t x hx => ?_, fun t x _ hx => hat t x hx⟩
  rw [kept_succ he, if_neg (by rw [hk]; decide), List.append_nil, kept_all hA] at hx
  rw [List.getElem?_take] at hx
  split at hx
  · exact hat t x hx
  · cases hx
theorem RowP.finish {w : World} {base g cap : Nat} {now : Int} {L : List Ent} (h : RowP w g cap now L L.length) (hg : base ≤ g) (hc : L.length ≤ cap) (hm : cap ≤ maxLen) :
    (w.setCells g (L.filter (kp now)).length (List.replicate (L.length - (L.filter (kp now)).length) (.string ⟨#[]⟩))).ownsRow base 22 1 (.slice (some ⟨g, 0, none⟩) (L.filter (kp now)).length cap) (L.filter (kp now)).length ((L.filter (kp now)).map fun e => .string e.2.hash) := by
  obtain ⟨cur, a, b, c, _⟩ := h.row
  have hle := List.length_filter_le (kp now) L
  have hkk : kept now L L.length = L.filter (kp now) := by unfold kept; rw [List.take_length]
  rw [hkk] at c
  obtain ⟨cur', e1, e2, e3⟩ := setCells_block g 22 (List.replicate (L.length - (L.filter (kp now)).length) (.string ⟨#[]⟩)) (L.filter (kp now)).length w cur a (by simp; omega)
  refine ⟨by simp, .inr ⟨g, cap, cur', rfl, hg, e1, by omega, hm, by omega, ?_⟩⟩
  apply List.ext_getElem?
  intro k
  by_cases hk : k < (L.filter (kp now)).length
  · rw [List.getElem?_take, if_pos (by omega), Array.getElem?_toList, e3 k, if_neg (by omega), List.getElem?_map, List.getElem?_eq_getElem hk]
    exact c k _ (List.getElem?_eq_getElem hk)
  · rw [List.getElem?_eq_none (by simp; omega), List.getElem?_eq_none (by simp; omega)]
/-- what slices.DeleteFunc leaves -/
def DelPost (base mm : Nat) (v : Value) (now : Int) (L : List Ent) (w : World) (y : Ending) (w' : World) : Prop :=
  ∃ v', y = .returned v' ∧ (v'.ownBlock = v.ownBlock) ∧ w'.ownsRow base 22 1 v' (L.filter (kp now)).length ((L.filter (kp now)).map fun e => .string e.2.hash) ∧ MapIs w' mm (L.filter (kp now)) ∧ Fr (fun k => k = mm ∨ v.ownBlock = some k) w w'
set_option maxRecDepth 100000 in
set_option maxHeartbeats 8000000 in
theorem delf_any (base bk mm r2 r3 : Nat) (va : Option Addr) (vc : Nat) (L : List Ent) (now : Int) (w : World) (h : BookAt w base bk mm (.slice va L.length vc) L)
    (h2 : w.heap[r2]? = some (.cells #[.pointer (some ⟨bk, 0, none⟩)] 47 (0, 0))) (h3 : w.heap[r3]? = some (.cells #[.int .i64 now] 2 (0, 0))) :
    Calls Tryd.prog 52 #[.slice va L.length vc, .func (.func 53) #[] #[.pointer (some ⟨r2, 0, none⟩), .pointer (some ⟨r3, 0, none⟩)]] w (DelPost base mm (.slice va L.length vc) now L w) := by
  have hc2 : w.cell? ⟨r2, 0, none⟩ = some (.pointer (some ⟨bk, 0, none⟩)) := by rw [cell_of_row _ _ _ _ _ _ h2]; rfl
  have hc3 : w.cell? ⟨r3, 0, none⟩ = some (.int .i64 now) := by rw [cell_of_row _ _ _ _ _ _ h3]; rfl
  have HI := Lib.hid (idx_any base bk mm r2 r3 va vc L now w h hc2 hc3)
  have HH := Lib.hid h
  have H2 := Lib.hid h2
  have H3 := Lib.hid h3
  have hfew := h.few
  clear h h2 h3 hc2 hc3
  go_enter Tryd.func52, Tryd.ntmps52
  go_upto_region 2 with (go_at_call 72; (with_reducible refine Calls.mono HI.out ?_); intro y w1 hpost; have HP := Lib.hid hpost; rcases hpost with ⟨i, e, rfl, hpost⟩ | ⟨rfl, hpost⟩)
  · clear HP
    obtain ⟨he, hA, hk, hmp, hf1⟩ := hpost
    have hil := (List.getElem?_eq_some_iff.1 he).1
    obtain ⟨g, cap, cur, hvv, hg, hh, hcap, hcm, _, _⟩ := row_cellsG HH.out.own (by omega)
    cases hvv
    obtain ⟨es0, c0, hm0, _⟩ := HH.out.map
    have hgm : g ≠ mm := fun e => map_not_cells hm0 hh e.symm
    have hbm : bk ≠ mm := fun e => map_not_cells hm0 HH.out.bkk e.symm
    have hbg : bk ≠ g := type_ne HH.out.bkk hh (by decide)
    have h2m : r2 ≠ mm := fun e => map_not_cells hm0 H2.out e.symm
    have h2g : r2 ≠ g := type_ne H2.out hh (by decide)
    have h3m : r3 ≠ mm := fun e => map_not_cells hm0 H3.out e.symm
    have h3g : r3 ≠ g := type_ne H3.out hh (by decide)
    have hl0 : left now L (i + 1) = L.eraseIdx i := by
      rw [left_drop he hk, kept_all hA, List.length_take, show min i L.length = i by omega]
      unfold left
      rw [kept_all hA, List.take_append_drop]
    have HM1 : Hid (MapIs w1 mm (left now L (i + 1))) := by rw [hl0]; exact hmp
    have HR1 : Hid (RowP w1 g vc now L (i + 1)) := (RowP.start HH.out.own he hA hk).fr hf1 hgm
    have HF1 : Hid (Fr (fun k => k = mm ∨ k = g) w w1) := (Fr.refl _ w).trans' hf1 (fun _ _ h => .inl h)
    have HK1 : Hid ((kept now L (i + 1)).length ≤ i) := by
      show _ ≤ _
      rw [kept_succ he, if_neg (by rw [hk]; decide), List.append_nil]; exact kept_le _ _ _
    have HK0 : Hid ((kept now L i).length = (kept now L (i + 1)).length) := by
      show _ = _
      rw [kept_succ he, if_neg (by rw [hk]; decide), List.append_nil]
    have HK2 : Hid ((kept now L i).length = i) := by show _ = _; rw [kept_all hA, List.length_take]; omega
    have HFIND : Hid (∀ (j : Nat) (e : Ent), L[j]? = some e → ∀ W, Fr (fun k => k = mm ∨ k = g) w W → MapIs W mm (left now L j) → Calls Tryd.prog 53 #[.string e.2.hash, .pointer (some ⟨r2, 0, none⟩), .pointer (some ⟨r3, 0, none⟩)] W fun y w' => y = .returned (.bool (!kp now e)) ∧ ((kp now e = true ∧ Below W.heap.size W w') ∨ (kp now e = false ∧ MapIs w' mm (left now L (j + 1)) ∧ Fr (Only mm) W w'))) := by
      intro j e he W hF hM
      have hb := HH.out.bills e (List.mem_of_getElem? he)
      have b1 := (hF.block bk (lt_of_heap HH.out.bkk) (by rintro (h | h) <;> contradiction)).trans HH.out.bkk
      have b2 := (hF.block r2 (lt_of_heap H2.out) (by rintro (h | h) <;> contradiction)).trans H2.out
      have b3 := (hF.block r3 (lt_of_heap H3.out) (by rintro (h | h) <;> contradiction)).trans H3.out
      have b4 := (hF.block e.1 (lt_of_heap hb.1) (by rintro (h | h); exact map_not_cells hm0 hb.1 h.symm; exact type_ne hb.1 hh (by decide) h)).trans hb.1
      have := pr_any bk mm r2 r3 _ (left now L j) e.2.hash _ e now W b1 hM (left_find HH.out.uni he) b4 (HH.out.ok e (List.mem_of_getElem? he)) (by rw [cell_of_row _ _ _ _ _ _ b2]; rfl) (by rw [cell_of_row _ _ _ _ _ _ b3]; rfl)
      refine this.mono fun y w' hp => ⟨hp.1, ?_⟩
      rcases hp.2 with hq | ⟨hq, hq2, hq3⟩
      · exact .inl hq
      · rw [left_drop he hq]
        exact .inr ⟨hq, hq2, hq3⟩
    have HGM := Lib.hid hgm
    clear he hA hk hmp hf1 hh hm0 hgm hbm hbg h2m h2g h3m h3g hl0
    have hii : (i : Int) < 256 := by omega
    have hni : ((i : Int) == -1) = false := by simp
    go_wp2_with fail
    go_loopw [5, 6] (fun iv jv wr => ∃ (j m : Nat), m < j ∧ j ≤ L.length ∧ iv = .int .i64 m ∧ jv = .int .i64 j ∧ Hid ((kept now L j).length = m) ∧ Hid (MapIs wr mm (left now L j)) ∧ Hid (RowP wr g vc now L j) ∧ Hid (Fr (fun k => k = mm ∨ k = g) w wr)) (fun _ jv _ => L.length - (intOf jv).toNat)
    case atStart =>
      refine ⟨i + 1, i, by omega, by omega, rfl, by go_num, ?_, HM1.out, HR1.out, HF1.out⟩
      exact HK0.out.symm.trans HK2.out
    case round =>
      obtain ⟨j, m, hmj, hj, rfl, rfl, hKL, hM, hR, hF⟩ := hrel
      by_cases hlt : j < L.length
      · obtain ⟨e', he'⟩ : ∃ e', L[j]? = some e' := ⟨_, List.getElem?_eq_getElem hlt⟩
        obtain ⟨cr, ca, cs, _, cd⟩ := hR.out.row
        have d0 : wr.cell? ⟨g, j, none⟩ = some (.string e'.2.hash) := by rw [cell_of_row _ _ _ _ _ _ ca]; exact cd j e' (Nat.le_refl _) he'
        have HC := Lib.hid (HFIND.out j e' he' wr hF.out hM.out)
        have HE := Lib.hid he'
        have hji : (j : Int) < (L.length : Int) := by omega
        have hmi : (m : Int) < (L.length : Int) := by omega
        have hji2 : (j : Int) < 256 := by omega
        clear ca cs cd he'
        cases hk : kp now e' with
        | true =>
          rw [hk] at HC
          have HK := Lib.hid hk
          have HGR : Hid (∀ W, Below wr.heap.size wr W → ∃ old, W.cell? ⟨g, m, none⟩ = some old ∧ W.frozen? ⟨g, m, none⟩ = false) := by
            intro W hW
            obtain ⟨cr, ca, cs, _, _⟩ := hR.out.row
            have ca' := (hW.block g (lt_of_heap ca)).trans ca
            exact ⟨cr[m]'(by omega), by rw [cell_of_row _ _ _ _ _ _ ca']; exact Array.getElem?_eq_getElem _, frozen_of_row _ _ m _ _ ca'⟩
          clear hk
          go_wp2_with (go_at_call 53; (with_reducible refine Calls.mono HC.out ?_); rintro y w2 ⟨rfl, hb2⟩; have hb3 := (hb2.resolve_right (fun h => by cases h.1)).2; have B2 := Lib.hid hb3; obtain ⟨old, c5, f5⟩ := HGR.out w2 hb3; clear hb2 hb3)
          go_roundw
          case rel =>
            refine ⟨j + 1, m + 1, by omega, by omega, by go_num, by go_num, ?_, ?_, ?_, ?_⟩
            · rw [kept_succ HE.out, if_pos HK.out, List.length_append, hKL.out]; rfl
            · rw [left_keep HE.out HK.out]
              obtain ⟨es, c, q1, q2⟩ := hM.out.below B2.out
              exact ⟨es, c, (heap_setCell_other _ _ _ _ (fun e => HGM.out e.symm)).trans q1, q2⟩
            · have := ((hR.out.fr (Fr.below B2.out (S := fun _ => False)) (fun h => h)).keep HE.out HK.out hcap)
              rw [hKL.out] at this
              exact this
            · exact (hF.out.trans' (Fr.below B2.out (S := fun _ => False)) (fun _ _ h => h.elim)).set' _ _ (fun _ => .inr rfl)
          case measure => simp [intOf]; omega
        | false =>
          rw [hk] at HC
          have HK := Lib.hid hk
          clear hk
          go_wp2_with (go_at_call 53; (with_reducible refine Calls.mono HC.out ?_); rintro y w2 ⟨rfl, hb2⟩; have B2 := Lib.hid (hb2.resolve_left (fun h => by cases h.1)).2; clear hb2)
          go_roundw
          case rel =>
            refine ⟨j + 1, m, by omega, by omega, rfl, by go_num, ?_, B2.out.1, ?_, ?_⟩
            · rw [kept_succ HE.out, if_neg (by rw [HK.out]; decide), List.append_nil]; exact hKL.out
            · exact (hR.out.drop HE.out HK.out).fr B2.out.2 HGM.out
            · exact hF.out.trans' B2.out.2 (fun _ _ h => .inl h)
          case measure => simp [intOf]; omega
      · obtain rfl : j = L.length := by omega
        obtain ⟨cr, ca, cs, _, _⟩ := hR.out.row
        have hcl : ∀ ty c, (Builtin.clear_ #[31] ty #[.slice (some ⟨g, m, none⟩) (L.length - m) c]).run Tryd.prog wr = .ok (.tuple #[]) (wr.setCells g m (List.replicate (L.length - m) (.string ⟨#[]⟩))) := fun ty c =>
          Lib.run_clear_slice wr 31 22 ty (.string ⟨#[]⟩) Tryd.underlying31 (fun w => by kernel_rfl) rfl rfl g m (L.length - m) c (by omega) (fun t ht => by rw [cell_of_row _ _ _ _ _ _ ca, Array.getElem?_eq_getElem (by omega)]; rfl) (fun t _ => frozen_of_row _ _ _ _ _ ca)
        clear ca cs
        have hmi : (m : Int) ≤ (L.length : Int) := by omega
        have hmn : m ≤ L.length := by omega
        have hmc : m ≤ vc := by omega
        have hmc2 : ¬ vc = m := by omega
        go_wp2_with fail
        go_ret
        have hkk : kept now L L.length = L.filter (kp now) := by unfold kept; rw [List.take_length]
        have hkm : m = (L.filter (kp now)).length := by rw [← hkk]; exact hKL.out.symm
        subst hkm
        refine ⟨_, rfl, rfl, RowP.finish hR.out hg hcap hcm, ?_, setCells_fr g _ _ w wr ((Fr.refl _ w).trans' hF.out (fun k _ h => ?_)) (.inr rfl)⟩
        · obtain ⟨es, c, q1, q2⟩ := hM.out
          have f := setCells_fr g (List.replicate (L.length - (L.filter (kp now)).length) (Value.string ⟨#[]⟩)) (L.filter (kp now)).length wr wr (S := fun k => k = g) (Fr.refl _ _) rfl
          refine ⟨es, c, (f.block mm (lt_of_heap q1) (fun e => HGM.out e.symm)).trans q1, ?_⟩
          unfold left at q2
          rw [hkk, List.drop_length, List.append_nil] at q2
          exact q2
        · rcases h with h | h
          · exact .inl h
          · right; rw [h]; rfl
  · obtain ⟨hall, hB⟩ := hpost
    have B1 := Lib.hid hB
    have HA := Lib.hid hall
    clear HP hall hB
    go_wp2_with fail
    go_ret
    have hfl : L.filter (kp now) = L := List.filter_eq_self.2 HA.out
    refine ⟨_, rfl, rfl, ?_, ?_, (Fr.refl _ w).trans' (Fr.below B1.out (S := fun _ => False)) (fun _ _ h => h.elim)⟩
    · rw [hfl]; exact own_below HH.out.own B1.out
    · rw [hfl]; exact MapIs.below HH.out.map B1.out
end Go.Proofs.YtnaodgljdbkmnaaDoor
