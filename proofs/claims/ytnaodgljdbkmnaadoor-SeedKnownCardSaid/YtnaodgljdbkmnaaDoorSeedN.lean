/- seed: SeedKnown, walked. -/
import Derived.Test.YtnaodgljdbkmnaaDoorSeedM
import Derived.Deep.AppendLies
namespace Go.Proofs.YtnaodgljdbkmnaaDoor
set_option linter.unusedVariables false
open Go.RowKit
theorem Try.info42 : (Tryd.prog.info? 42).map (fun i => (i.zero, i.size, i.bytes)) = some (some (.agg #[.int .i64 0, .int .i64 0, .string ⟨#[]⟩]), 3, 32) := by kernel_rfl
/-- rows of steps -/
def Row3 (n : Nat) (xs : List Value) : Prop := xs.length = n * 3 ∧ ∀ k, k < n → ∃ o : Stp, xs[k * 3]? = some (.int .i64 o.kind) ∧ xs[k * 3 + 1]? = some (.int .i64 o.i) ∧ xs[k * 3 + 2]? = some (.string o.t) ∧ o.t.size ≤ maxLen
theorem Row3.nil : Row3 0 [] := ⟨rfl, fun k hk => by omega⟩
theorem Row3.app {n m : Nat} {xs ys : List Value} (h : Row3 n xs) (h' : Row3 m ys) : Row3 (n + m) (xs ++ ys) := by
  have h1 := h.1
  have h2 := h'.1
  refine ⟨by rw [List.length_append]; omega, fun k hk => ?_⟩
  rcases Nat.lt_or_ge k n with hkn | hkn
  · obtain ⟨o, e0, e1, e2, hs⟩ := h.2 k hkn
    refine ⟨o, ?_, ?_, ?_, hs⟩
    · rw [List.getElem?_append_left (by omega)]; exact e0
    · rw [List.getElem?_append_left (by omega)]; exact e1
    · rw [List.getElem?_append_left (by omega)]; exact e2
  · obtain ⟨o, e0, e1, e2, hs⟩ := h'.2 (k - n) (by omega)
    refine ⟨o, ?_, ?_, ?_, hs⟩
    · rw [List.getElem?_append_right (by omega), show k * 3 - xs.length = (k - n) * 3 by omega]; exact e0
    · rw [List.getElem?_append_right (by omega), show k * 3 + 1 - xs.length = (k - n) * 3 + 1 by omega]; exact e1
    · rw [List.getElem?_append_right (by omega), show k * 3 + 2 - xs.length = (k - n) * 3 + 2 by omega]; exact e2
theorem Row3.one (a b : Int) (t : ByteArray) (ht : t.size ≤ maxLen) : Row3 1 [.int .i64 a, .int .i64 b, .string t] := ⟨rfl, fun k hk => by
  obtain rfl : k = 0 := by omega
  exact ⟨⟨a, b, t⟩, rfl, rfl, rfl, ht⟩⟩
theorem Row3.two (a b : Int) (t : ByteArray) (ht : t.size ≤ maxLen) (a' b' : Int) (t' : ByteArray) (ht' : t'.size ≤ maxLen) : Row3 2 [.int .i64 a, .int .i64 b, .string t, .int .i64 a', .int .i64 b', .string t'] := (Row3.one a b t ht).app (Row3.one a' b' t' ht')
theorem Row3.three (a b : Int) (t : ByteArray) (ht : t.size ≤ maxLen) (a' b' : Int) (t' : ByteArray) (ht' : t'.size ≤ maxLen) (c d : Int) (u : ByteArray) (hu : u.size ≤ maxLen) : Row3 3 [.int .i64 a, .int .i64 b, .string t, .int .i64 a', .int .i64 b', .string t', .int .i64 c, .int .i64 d, .string u] := (Row3.two a b t ht a' b' t' ht').app (Row3.one c d u hu)
/-- out of a row: the steps of a part of it -/
theorem Row3.steps {n : Nat} {xs : List Value} (h : Row3 n xs) {w : World} {g : Nat} (hc : ∀ j u, xs[j]? = some u → w.cell? ⟨g, j, none⟩ = some u) (l m : Nat) (hlm : l + m ≤ n) : ∃ ops : List Stp, ops.length = m ∧ StepsAt w (some ⟨g, l * 3, none⟩) ops := by
  obtain ⟨L, hLl, hLi⟩ : ∃ L : List Stp, L.length = m ∧ ∀ (k : Nat) (o : Stp), L[k]? = some o → xs[(l + k) * 3]? = some (.int .i64 o.kind) ∧ xs[(l + k) * 3 + 1]? = some (.int .i64 o.i) ∧ xs[(l + k) * 3 + 2]? = some (.string o.t) ∧ o.t.size ≤ maxLen := by
    refine ⟨List.ofFn (n := m) fun i => (h.2 (l + i.1) (by have := i.2; omega)).choose, by simp, fun i o hio => ?_⟩
    have hil : i < m := by have := (List.getElem?_eq_some_iff.1 hio).1; simpa using this
    rw [List.getElem?_ofFn, dif_pos hil] at hio
    cases hio
    exact (h.2 (l + i) (by omega)).choose_spec
  refine ⟨L, hLl, .inr ⟨g, l * 3, rfl, fun k o ho => ?_⟩⟩
  obtain ⟨e0, e1, e2, hs⟩ := hLi k o ho
  refine ⟨?_, ?_, ?_, hs⟩
  · have := hc _ _ e0; rwa [show (l + k) * 3 = l * 3 + k * 3 by omega] at this
  · have := hc _ _ e1; rwa [show (l + k) * 3 + 1 = l * 3 + k * 3 + 1 by omega] at this
  · have := hc _ _ e2; rwa [show (l + k) * 3 + 2 = l * 3 + k * 3 + 2 by omega] at this
theorem seven (d d' : ByteArray) (hd : d.size ≤ maxLen) (hd' : d'.size ≤ maxLen) (j : Nat) (hj : j < 7) : ∃ x : ByteArray, (#[Value.string ⟨#[110, 55, 59]⟩, .string ⟨#[]⟩, .string ⟨#[110]⟩, .string ⟨#[116, 50, 58, 97, 98]⟩, .string d, .string d', .string ⟨#[68, 110, 49, 59, 116, 49, 58, 53]⟩] : Array Value)[j]? = some (.string x) ∧ x.size ≤ maxLen := by
  rcases (by omega : j = 0 ∨ j = 1 ∨ j = 2 ∨ j = 3 ∨ j = 4 ∨ j = 5 ∨ j = 6) with rfl | rfl | rfl | rfl | rfl | rfl | rfl
  · exact ⟨_, rfl, by decide⟩
  · exact ⟨_, rfl, by decide⟩
  · exact ⟨_, rfl, by decide⟩
  · exact ⟨_, rfl, by decide⟩
  · exact ⟨_, rfl, hd⟩
  · exact ⟨_, rfl, hd'⟩
  · exact ⟨_, rfl, by decide⟩
set_option maxRecDepth 100000 in
set_option maxHeartbeats 8000000 in
theorem seedKnown_any (w : World) (hL : LibOk w) (hT : Tab w) (hD : Bru w) : Calls Tryd.prog 7 #[] w fun e w' => e = .returned (.bool true) ∧ Below w.heap.size w w' := by
  have HL := Lib.hid hL
  have HT := Lib.hid hT
  have HD := Lib.hid hD
  clear hL hT hD
  obtain ⟨i0, hi0, hz0, hz1, hz2⟩ := info_parts Try.info42
  go_enter Tryd.func7, Tryd.ntmps7
  go_wp2_with fail
  go_loopw [1, 2] (fun dv iv wr => ∃ (i : Nat) (d : ByteArray), i ≤ 46 ∧ iv = .int .i64 i ∧ dv = .string d ∧ d.size ≤ 3 + i ∧ Hid (Below w.heap.size w wr)) (fun _ iv _ => 46 - (intOf iv).toNat)
  case atStart => exact ⟨0, ⟨#[110, 49, 59]⟩, by omega, rfl, rfl, by decide, Below.refl _ _⟩
  case round =>
    obtain ⟨i, d, hi, rfl, rfl, hds, hB⟩ := hrel
    have hBs := hB.out.size
    by_cases hlt : i < 46
    · have hii : (i : Int) < 46 := by omega
      have c1 := cat_any ⟨#[72]⟩ d (by rw [size1]; omega)
      have hs2 : ((⟨#[72]⟩ : ByteArray) ++ d).size ≤ 3 + (i + 1) := by rw [ByteArray.size_append, size1]; omega
      generalize (⟨#[72]⟩ : ByteArray) ++ d = d2 at c1 hs2
      go_wp2_with fail
      go_roundw
      case rel => exact ⟨i + 1, d2, by omega, by go_num, rfl, hs2, hB.out⟩
      case measure => (simp [intOf] <;> omega)
    · obtain rfl : i = 46 := by omega
      try rw [show ((46 : Nat) : Int) = 46 from rfl]
      have c1 := cat_any ⟨#[72]⟩ d (by rw [size1]; omega)
      have hs2 : ((⟨#[72]⟩ : ByteArray) ++ d).size ≤ 50 := by rw [ByteArray.size_append, size1]; omega
      generalize (⟨#[72]⟩ : ByteArray) ++ d = d2 at c1 hs2
      have H7 := Lib.hid (fun (j : Nat) (hj : j < 7) => seven d d2 (by unfold maxLen; omega) (by unfold maxLen; omega) j hj)
      go_wp2_with fail
      have B1 := Lib.hid (hB.out.alloc hBs (.cells #[.string ⟨#[110, 55, 59]⟩, .string ⟨#[]⟩, .string ⟨#[110]⟩, .string ⟨#[116, 50, 58, 97, 98]⟩, .string d, .string d2, .string ⟨#[68, 110, 49, 59, 116, 49, 58, 53]⟩] 22))
      have HG := Lib.hid (heap_alloc_at wr (.cells #[.string ⟨#[110, 55, 59]⟩, .string ⟨#[]⟩, .string ⟨#[110]⟩, .string ⟨#[116, 50, 58, 97, 98]⟩, .string d, .string d2, .string ⟨#[68, 110, 49, 59, 116, 49, 58, 53]⟩] 22))
      have HGC : Hid (∀ W, Below (wr.alloc (.cells #[.string ⟨#[110, 55, 59]⟩, .string ⟨#[]⟩, .string ⟨#[110]⟩, .string ⟨#[116, 50, 58, 97, 98]⟩, .string d, .string d2, .string ⟨#[68, 110, 49, 59, 116, 49, 58, 53]⟩] 22)).heap.size (wr.alloc (.cells #[.string ⟨#[110, 55, 59]⟩, .string ⟨#[]⟩, .string ⟨#[110]⟩, .string ⟨#[116, 50, 58, 97, 98]⟩, .string d, .string d2, .string ⟨#[68, 110, 49, 59, 116, 49, 58, 53]⟩] 22)) W → ∀ j, j < 7 → ∃ x : ByteArray, W.cell? ⟨wr.heap.size, j, none⟩ = some (.string x) ∧ x.size ≤ maxLen) := fun W hW j hj => by
        obtain ⟨x, hx, hxs⟩ := H7.out j hj
        exact ⟨x, by rw [cell_of_row _ _ _ _ _ _ ((hW.block _ (lt_of_heap HG.out)).trans HG.out)]; exact hx, hxs⟩
      generalize wr.alloc (.cells #[.string ⟨#[110, 55, 59]⟩, .string ⟨#[]⟩, .string ⟨#[110]⟩, .string ⟨#[116, 50, 58, 97, 98]⟩, .string d, .string d2, .string ⟨#[68, 110, 49, 59, 116, 49, 58, 53]⟩] 22) = w1 at B1 HGC ⊢
      clear HG
      generalize wr.heap.size = gs at HGC ⊢
      clear c1 hs2 hds hB hBs H7 hlt hi
      go_loopw [22] (fun jv wr => ∃ j : Nat, j ≤ 7 ∧ jv = .int .i64 j ∧ Hid (Below w1.heap.size w1 wr)) (fun jv _ => 7 - (intOf jv).toNat)
      case atStart => exact ⟨0, by omega, rfl, Below.refl _ _⟩
      case round =>
        obtain ⟨j, hj, rfl, hB⟩ := hrel
        have hBB := Lib.hid (B1.out.trans (hB.out.mono B1.out.size))
        by_cases hlt : j < 7
        · have hji : (j : Int) < 7 := by omega
          obtain ⟨x, hx, hxs⟩ := HGC.out wr hB.out j hlt
          obtain ⟨wo, rfl⟩ : ∃ wo : World, wo = wr := ⟨_, rfl⟩
          go_wp2_with fail
          go_loopw [5] (fun bv wr => ∃ b : Nat, b ≤ 21 ∧ bv = .int .i64 b ∧ Hid (Below wo.heap.size wo wr)) (fun bv _ => 21 - (intOf bv).toNat)
          case atStart => exact ⟨0, by omega, rfl, Below.refl _ _⟩
          case round =>
            obtain ⟨b, hb, rfl, hC⟩ := hrel
            have BB := Lib.hid (hBB.out.trans (hC.out.mono hBB.out.size))
            by_cases hlb : b < 21
            · have hbi : (b : Int) < 21 := by omega
              have CB := Lib.hid hC.out
              go_wp2_with (first
                | (go_at_call 3; (with_reducible refine Calls.mono (seedSecrets_any _ _ _ hxs (HL.out.below BB.out) (HT.out.below BB.out) (HD.out.below BB.out)) ?_); rintro e w5 ⟨rfl, hb⟩; have B5 := Lib.hid (BB.out.trans (hb.mono BB.out.size)); have C5 := Lib.hid (CB.out.trans (hb.mono CB.out.size)); clear hb)
                | (go_at_call 3; (with_reducible refine Calls.mono (seedSecrets_any _ _ _ hxs (HL.out.below B5.out) (HT.out.below B5.out) (HD.out.below B5.out)) ?_); rintro e w6 ⟨rfl, hb⟩; have B6 := Lib.hid (B5.out.trans (hb.mono B5.out.size)); have C6 := Lib.hid (C5.out.trans (hb.mono C5.out.size)); clear hb)
                | (go_at_call 3; (with_reducible refine Calls.mono (seedSecrets_any _ _ _ hxs (HL.out.below B6.out) (HT.out.below B6.out) (HD.out.below B6.out)) ?_); rintro e w7 ⟨rfl, hb⟩; have B7 := Lib.hid (B6.out.trans (hb.mono B6.out.size)); have C7 := Lib.hid (C6.out.trans (hb.mono C6.out.size)); clear hb))
              go_roundw
              case rel => exact ⟨b + 1, by omega, by go_num, C7.out⟩
              case measure => (simp [intOf] <;> omega)
            · obtain rfl : b = 21 := by omega
              try rw [show ((21 : Nat) : Int) = 21 from rfl]
              have CB := Lib.hid (hB.out.trans (hC.out.mono hB.out.size))
              go_wp2_with (first
                | (go_at_call 3; (with_reducible refine Calls.mono (seedSecrets_any _ _ _ hxs (HL.out.below BB.out) (HT.out.below BB.out) (HD.out.below BB.out)) ?_); rintro e w5 ⟨rfl, hb⟩; have B5 := Lib.hid (BB.out.trans (hb.mono BB.out.size)); have C5 := Lib.hid (CB.out.trans (hb.mono CB.out.size)); clear hb)
                | (go_at_call 3; (with_reducible refine Calls.mono (seedSecrets_any _ _ _ hxs (HL.out.below B5.out) (HT.out.below B5.out) (HD.out.below B5.out)) ?_); rintro e w6 ⟨rfl, hb⟩; have B6 := Lib.hid (B5.out.trans (hb.mono B5.out.size)); have C6 := Lib.hid (C5.out.trans (hb.mono C5.out.size)); clear hb)
                | (go_at_call 3; (with_reducible refine Calls.mono (seedSecrets_any _ _ _ hxs (HL.out.below B6.out) (HT.out.below B6.out) (HD.out.below B6.out)) ?_); rintro e w7 ⟨rfl, hb⟩; have B7 := Lib.hid (B6.out.trans (hb.mono B6.out.size)); have C7 := Lib.hid (C6.out.trans (hb.mono C6.out.size)); clear hb)
                | (go_at_call 6; (with_reducible refine Calls.mono (seedNone_any _ _ _ (HL.out.below B7.out) (HT.out.below B7.out) (HD.out.below B7.out)) ?_); rintro e w8 ⟨rfl, hb⟩; have B8 := Lib.hid (B7.out.trans (hb.mono B7.out.size)); have C8 := Lib.hid (C7.out.trans (hb.mono C7.out.size)); clear hb))
              go_roundw
              case rel => exact ⟨j + 1, by omega, by go_num, C8.out⟩
              case measure => (simp [intOf] <;> omega)
        · obtain rfl : j = 7 := by omega
          try rw [show ((7 : Nat) : Int) = 7 from rfl]
          clear HGC hB
          obtain ⟨wo, rfl⟩ : ∃ wo : World, wo = wr := ⟨_, rfl⟩
          go_wp2_with fail
          go_loopw [6, 7] (fun lv iv wr => ∃ (i n : Nat) (xs : List Value), i ≤ 34 ∧ iv = .int .i64 i ∧ n ≤ 5 * i ∧ Hid (wr.ownsRow w.heap.size 42 3 lv n xs) ∧ Hid (Row3 n xs) ∧ Hid (Below w.heap.size w wr)) (fun _ iv _ => 34 - (intOf iv).toNat)
          case atStart => exact ⟨0, 0, [], by omega, rfl, by omega, World.ownsRow_nil _ _ _ _, Row3.nil, hBB.out⟩
          case round =>
            obtain ⟨i, n, xs, hi, rfl, hn, hO, hR, hB⟩ := hrel
            have hBs := hB.out.size
            by_cases hlt2 : i < 34
            · have hii : (i : Int) < 34 := by omega
              obtain ⟨la, lc, rfl⟩ := own_slice hO.out
              obtain ⟨z5, hz5⟩ : ∃ z : Int, (i : Int).tmod 5 = z := ⟨_, rfl⟩
              have hz5' : z5 = ((i % 5 : Nat) : Int) := by rw [← hz5]; rfl
              have hz50 : 0 ≤ z5 := by omega
              have hz54 : z5 ≤ 4 := by omega
              obtain ⟨z4, hz4⟩ : ∃ z : Int, (i : Int).tmod 4 = z := ⟨_, rfl⟩
              obtain ⟨z3, hz3⟩ : ∃ z : Int, (i : Int).tmod 3 = z := ⟨_, rfl⟩
              have hz3' : z3 = ((i % 3 : Nat) : Int) := by rw [← hz3]; rfl
              have hz30 : 0 ≤ z3 := by omega
              have hz32 : z3 ≤ 2 := by omega
              have hn9 : n ≤ 165 := by omega
              clear hz5' hz3'
              by_cases h4 : z4 = 0
              · have h4b : (z4 == 0) = true := by simpa using h4
                subst h4
                go_wp2_with (first
                  | (at_builtin; refine wpList_append_lies _ rfl _ _ _ rfl w.heap.size 42 i0 _ 3 32 Tryd.underlying37 hi0 hz0 hz1 hz2 rfl (by omega) (.slice la n lc) (n) (xs) rfl (World.ownsRow.alloc hO.out _) ⟨wr.heap.size, 0, none⟩ 3 3 [.int .i64 1, .int .i64 (1048575 - (i : Int) - 1), .string ⟨#[110, 55, 59]⟩, .int .i64 0, .int .i64 0, .string ⟨#[]⟩, .int .i64 2, .int .i64 (1048575 - (i : Int) + z5), .string ⟨#[]⟩] rfl rfl (World.news_of_block (cs := #[.int .i64 1, .int .i64 (1048575 - (i : Int) - 1), .string ⟨#[110, 55, 59]⟩, .int .i64 0, .int .i64 0, .string ⟨#[]⟩, .int .i64 2, .int .i64 (1048575 - (i : Int) + z5), .string ⟨#[]⟩]) (t := 42) (fr := (0, 0)) (heap_alloc_at wr _)) (by simp [Value.oneCell']) (by omega) (by unfold maxLen; omega) (by omega) (by simp; omega) (wr.heap.size + 1) (by simp) ?_; intro g2 cap2 w2 hown2 hgrow2 hat2 hlt2; have O2 := Lib.hid hown2; have B2 := Lib.hid ((hB.out.alloc hB.out.size (.cells #[.int .i64 1, .int .i64 (1048575 - (i : Int) - 1), .string ⟨#[110, 55, 59]⟩, .int .i64 0, .int .i64 0, .string ⟨#[]⟩, .int .i64 2, .int .i64 (1048575 - (i : Int) + z5), .string ⟨#[]⟩] 42)).grown hgrow2 (by simp; omega) (fun k hk => (World.ownsRow.lt (World.ownsRow.alloc hO.out (.cells #[.int .i64 1, .int .i64 (1048575 - (i : Int) - 1), .string ⟨#[110, 55, 59]⟩, .int .i64 0, .int .i64 0, .string ⟨#[]⟩, .int .i64 2, .int .i64 (1048575 - (i : Int) + z5), .string ⟨#[]⟩] 42)) k hk).1)); have R2 : Hid (Row3 (n + 3) (xs ++ [.int .i64 1, .int .i64 (1048575 - (i : Int) - 1), .string ⟨#[110, 55, 59]⟩, .int .i64 0, .int .i64 0, .string ⟨#[]⟩, .int .i64 2, .int .i64 (1048575 - (i : Int) + z5), .string ⟨#[]⟩])) := Lib.hid (hR.out.app (Row3.three _ _ _ (by decide) _ _ _ (by decide) _ _ _ (by decide))); have z2s := B2.out.size; clear hown2 hgrow2 hat2 hlt2)
                  | (at_builtin; refine wpList_append_lies _ rfl _ _ _ rfl w.heap.size 42 i0 _ 3 32 Tryd.underlying37 hi0 hz0 hz1 hz2 rfl (by omega) (.slice (some ⟨g2, 0, none⟩) (n + 3) cap2) (n + 3) (xs ++ [.int .i64 1, .int .i64 (1048575 - (i : Int) - 1), .string ⟨#[110, 55, 59]⟩, .int .i64 0, .int .i64 0, .string ⟨#[]⟩, .int .i64 2, .int .i64 (1048575 - (i : Int) + z5), .string ⟨#[]⟩]) rfl (World.ownsRow.alloc O2.out _) ⟨w2.heap.size, 0, none⟩ 2 2 [.int .i64 1, .int .i64 (1048575 - (i : Int) - 1), .string ⟨#[110, 55, 59]⟩, .int .i64 (z3 * 2), .int .i64 (1048575 - (i : Int)), .string ⟨#[]⟩] rfl rfl (World.news_of_block (cs := #[.int .i64 1, .int .i64 (1048575 - (i : Int) - 1), .string ⟨#[110, 55, 59]⟩, .int .i64 (z3 * 2), .int .i64 (1048575 - (i : Int)), .string ⟨#[]⟩]) (t := 42) (fr := (0, 0)) (heap_alloc_at w2 _)) (by simp [Value.oneCell']) (by omega) (by unfold maxLen; omega) (by omega) (by simp; omega) (w2.heap.size + 1) (by simp) ?_; intro g6 cap6 w6 hown2 hgrow2 hat2 hlt2; have O6 := Lib.hid hown2; have B6 := Lib.hid ((B2.out.alloc B2.out.size (.cells #[.int .i64 1, .int .i64 (1048575 - (i : Int) - 1), .string ⟨#[110, 55, 59]⟩, .int .i64 (z3 * 2), .int .i64 (1048575 - (i : Int)), .string ⟨#[]⟩] 42)).grown hgrow2 (by simp; omega) (fun k hk => (World.ownsRow.lt (World.ownsRow.alloc O2.out (.cells #[.int .i64 1, .int .i64 (1048575 - (i : Int) - 1), .string ⟨#[110, 55, 59]⟩, .int .i64 (z3 * 2), .int .i64 (1048575 - (i : Int)), .string ⟨#[]⟩] 42)) k hk).1)); have R6 : Hid (Row3 (n + 3 + 2) (xs ++ [.int .i64 1, .int .i64 (1048575 - (i : Int) - 1), .string ⟨#[110, 55, 59]⟩, .int .i64 0, .int .i64 0, .string ⟨#[]⟩, .int .i64 2, .int .i64 (1048575 - (i : Int) + z5), .string ⟨#[]⟩] ++ [.int .i64 1, .int .i64 (1048575 - (i : Int) - 1), .string ⟨#[110, 55, 59]⟩, .int .i64 (z3 * 2), .int .i64 (1048575 - (i : Int)), .string ⟨#[]⟩])) := Lib.hid (R2.out.app (Row3.two _ _ _ (by decide) _ _ _ (by decide))); have z6s := B6.out.size; clear hown2 hgrow2 hat2 hlt2))
                go_roundw
                case rel => exact ⟨i + 1, _, _, by omega, by go_num, by omega, O6.out, R6.out, B6.out⟩
                case measure => (simp [intOf] <;> omega)
              · have h4b : (z4 == 0) = false := by simpa using h4
                go_wp2_with (at_builtin; refine wpList_append_lies _ rfl _ _ _ rfl w.heap.size 42 i0 _ 3 32 Tryd.underlying37 hi0 hz0 hz1 hz2 rfl (by omega) (.slice la n lc) (n) (xs) rfl (World.ownsRow.alloc hO.out _) ⟨wr.heap.size, 0, none⟩ 3 3 [.int .i64 1, .int .i64 (1048575 - (i : Int) - 1), .string ⟨#[110, 55, 59]⟩, .int .i64 0, .int .i64 0, .string ⟨#[]⟩, .int .i64 2, .int .i64 (1048575 - (i : Int) + z5), .string ⟨#[]⟩] rfl rfl (World.news_of_block (cs := #[.int .i64 1, .int .i64 (1048575 - (i : Int) - 1), .string ⟨#[110, 55, 59]⟩, .int .i64 0, .int .i64 0, .string ⟨#[]⟩, .int .i64 2, .int .i64 (1048575 - (i : Int) + z5), .string ⟨#[]⟩]) (t := 42) (fr := (0, 0)) (heap_alloc_at wr _)) (by simp [Value.oneCell']) (by omega) (by unfold maxLen; omega) (by omega) (by simp; omega) (wr.heap.size + 1) (by simp) ?_; intro g2 cap2 w2 hown2 hgrow2 hat2 hlt2; have O2 := Lib.hid hown2; have B2 := Lib.hid ((hB.out.alloc hB.out.size (.cells #[.int .i64 1, .int .i64 (1048575 - (i : Int) - 1), .string ⟨#[110, 55, 59]⟩, .int .i64 0, .int .i64 0, .string ⟨#[]⟩, .int .i64 2, .int .i64 (1048575 - (i : Int) + z5), .string ⟨#[]⟩] 42)).grown hgrow2 (by simp; omega) (fun k hk => (World.ownsRow.lt (World.ownsRow.alloc hO.out (.cells #[.int .i64 1, .int .i64 (1048575 - (i : Int) - 1), .string ⟨#[110, 55, 59]⟩, .int .i64 0, .int .i64 0, .string ⟨#[]⟩, .int .i64 2, .int .i64 (1048575 - (i : Int) + z5), .string ⟨#[]⟩] 42)) k hk).1)); have R2 : Hid (Row3 (n + 3) (xs ++ [.int .i64 1, .int .i64 (1048575 - (i : Int) - 1), .string ⟨#[110, 55, 59]⟩, .int .i64 0, .int .i64 0, .string ⟨#[]⟩, .int .i64 2, .int .i64 (1048575 - (i : Int) + z5), .string ⟨#[]⟩])) := Lib.hid (hR.out.app (Row3.three _ _ _ (by decide) _ _ _ (by decide) _ _ _ (by decide))); have z2s := B2.out.size; clear hown2 hgrow2 hat2 hlt2)
                go_roundw
                case rel => exact ⟨i + 1, _, _, by omega, by go_num, by omega, O2.out, R2.out, B2.out⟩
                case measure => (simp [intOf] <;> omega)
            · obtain rfl : i = 34 := by omega
              try rw [show ((34 : Nat) : Int) = 34 from rfl]
              obtain ⟨wp, rfl⟩ : ∃ wp : World, wp = wr := ⟨_, rfl⟩
              obtain ⟨la, lc, rfl⟩ := own_slice hO.out
              have hn9 : n ≤ 170 := by omega
              go_wp2_with fail
              go_loopw [9] (fun mv wr => ∃ m : Nat, m ≤ 200 ∧ mv = .int .i64 m ∧ Hid (Below wp.heap.size wp wr)) (fun mv _ => 300 - (intOf mv).toNat)
              case atStart => exact ⟨0, by omega, rfl, Below.refl _ _⟩
              case round =>
                obtain ⟨m, hm, rfl, hC⟩ := hrel
                have BB := Lib.hid (hB.out.trans (hC.out.mono hB.out.size))
                by_cases hlm : m + 80 ≤ n
                · have hmi : (m : Int) + 80 ≤ (n : Int) := by omega
                  obtain ⟨g, cap, hform, _, _⟩ := hO.out.form (by omega)
                  cases hform
                  have hcl : n ≤ lc ∧ lc ≤ maxLen := by
                    rcases hO.out.2 with ⟨hv, _⟩ | ⟨_, _, _, hv, _, _, h1, h2, _⟩
                    · cases hv
                    · cases hv; exact ⟨h1, h2⟩
                  have hcl1 : (m : Int) + 80 ≤ (lc : Int) := by omega
                  have hcl2 : (lc : Int) ≤ 9223372036854775807 := by have := hcl.2; unfold maxLen at this; omega
                  clear hcl
                  have hOr := own_below hO.out hC.out
                  obtain ⟨ops, hol, hops⟩ := hR.out.steps (w := wr) (g := g) (fun j u hu => by have := hOr.cells (g := g) rfl j u hu; rwa [Addr.add_mid, Nat.zero_add] at this) m 80 (by omega)
                  have HPL : Hid (∀ cp, Calls Tryd.prog 5 #[.string ⟨#[110, 55, 59]⟩, .slice (some ⟨g, m * 3, none⟩) 80 cp] wr fun e w' => e = .returned (.bool true) ∧ Below wr.heap.size wr w') := fun cp => by
                    have := seedPlays_any ⟨#[110, 55, 59]⟩ (some ⟨g, m * 3, none⟩) cp ops wr (by decide) (by rw [hol]; decide) hops (HL.out.below BB.out) (HT.out.below BB.out) (HD.out.below BB.out)
                    rw [hol] at this
                    exact this
                  clear hops hol hOr
                  go_wp2_with (go_at_call 5; (with_reducible refine Calls.mono (HPL.out _) ?_); rintro e w5 ⟨rfl, hb⟩; have C5 := Lib.hid (hC.out.trans (hb.mono hC.out.size)); clear hb)
                  go_roundw
                  case rel => exact ⟨m + 7, by omega, by go_num, C5.out⟩
                  case measure => (simp [intOf] <;> omega)
                · have hmi : (n : Int) < (m : Int) + 80 := by omega
                  clear hO hR hC
                  go_upto_region 31 with fail
                  have B5 := Lib.hid (BB.out.alloc BB.out.size (.cells #[.int .i64 1, .int .i64 1048575, .string ⟨#[110, 49, 59]⟩, .int .i64 1, .int .i64 1048574, .string ⟨#[110, 50, 59]⟩, .int .i64 1, .int .i64 1048574, .string ⟨#[110]⟩, .int .i64 2, .int .i64 1048575, .string ⟨#[]⟩, .int .i64 3, .int .i64 0, .string ⟨#[]⟩, .int .i64 0, .int .i64 0, .string ⟨#[]⟩, .int .i64 4, .int .i64 0, .string ⟨#[]⟩, .int .i64 2, .int .i64 1048574, .string ⟨#[]⟩, .int .i64 2, .int .i64 1048576, .string ⟨#[]⟩, .int .i64 2, .int .i64 (-1), .string ⟨#[]⟩] 42))
                  have K5 := Lib.hid (heap_alloc_at wr (.cells #[.int .i64 1, .int .i64 1048575, .string ⟨#[110, 49, 59]⟩, .int .i64 1, .int .i64 1048574, .string ⟨#[110, 50, 59]⟩, .int .i64 1, .int .i64 1048574, .string ⟨#[110]⟩, .int .i64 2, .int .i64 1048575, .string ⟨#[]⟩, .int .i64 3, .int .i64 0, .string ⟨#[]⟩, .int .i64 0, .int .i64 0, .string ⟨#[]⟩, .int .i64 4, .int .i64 0, .string ⟨#[]⟩, .int .i64 2, .int .i64 1048574, .string ⟨#[]⟩, .int .i64 2, .int .i64 1048576, .string ⟨#[]⟩, .int .i64 2, .int .i64 (-1), .string ⟨#[]⟩] 42))
                  have R5 : Hid (Row3 10 [.int .i64 1, .int .i64 1048575, .string ⟨#[110, 49, 59]⟩, .int .i64 1, .int .i64 1048574, .string ⟨#[110, 50, 59]⟩, .int .i64 1, .int .i64 1048574, .string ⟨#[110]⟩, .int .i64 2, .int .i64 1048575, .string ⟨#[]⟩, .int .i64 3, .int .i64 0, .string ⟨#[]⟩, .int .i64 0, .int .i64 0, .string ⟨#[]⟩, .int .i64 4, .int .i64 0, .string ⟨#[]⟩, .int .i64 2, .int .i64 1048574, .string ⟨#[]⟩, .int .i64 2, .int .i64 1048576, .string ⟨#[]⟩, .int .i64 2, .int .i64 (-1), .string ⟨#[]⟩]) := Lib.hid (((((Row3.two 1 1048575 ⟨#[110, 49, 59]⟩ (by decide) 1 1048574 ⟨#[110, 50, 59]⟩ (by decide)).app (Row3.two 1 1048574 ⟨#[110]⟩ (by decide) 2 1048575 ⟨#[]⟩ (by decide))).app (Row3.two 3 0 ⟨#[]⟩ (by decide) 0 0 ⟨#[]⟩ (by decide))).app (Row3.two 4 0 ⟨#[]⟩ (by decide) 2 1048574 ⟨#[]⟩ (by decide))).app (Row3.two 2 1048576 ⟨#[]⟩ (by decide) 2 (-1) ⟨#[]⟩ (by decide)))
                  obtain ⟨ops, hol, hops⟩ := R5.out.steps (w := wr.alloc (.cells #[.int .i64 1, .int .i64 1048575, .string ⟨#[110, 49, 59]⟩, .int .i64 1, .int .i64 1048574, .string ⟨#[110, 50, 59]⟩, .int .i64 1, .int .i64 1048574, .string ⟨#[110]⟩, .int .i64 2, .int .i64 1048575, .string ⟨#[]⟩, .int .i64 3, .int .i64 0, .string ⟨#[]⟩, .int .i64 0, .int .i64 0, .string ⟨#[]⟩, .int .i64 4, .int .i64 0, .string ⟨#[]⟩, .int .i64 2, .int .i64 1048574, .string ⟨#[]⟩, .int .i64 2, .int .i64 1048576, .string ⟨#[]⟩, .int .i64 2, .int .i64 (-1), .string ⟨#[]⟩] 42)) (g := wr.heap.size) (fun j u hu => by rw [cell_of_row _ _ _ _ _ _ K5.out, List.getElem?_toArray]; exact hu) 0 10 (by omega)
                  have HPL : Hid (∀ cp, Calls Tryd.prog 5 #[.string ⟨#[110, 55, 59]⟩, .slice (some ⟨wr.heap.size, 0, none⟩) 10 cp] (wr.alloc (.cells #[.int .i64 1, .int .i64 1048575, .string ⟨#[110, 49, 59]⟩, .int .i64 1, .int .i64 1048574, .string ⟨#[110, 50, 59]⟩, .int .i64 1, .int .i64 1048574, .string ⟨#[110]⟩, .int .i64 2, .int .i64 1048575, .string ⟨#[]⟩, .int .i64 3, .int .i64 0, .string ⟨#[]⟩, .int .i64 0, .int .i64 0, .string ⟨#[]⟩, .int .i64 4, .int .i64 0, .string ⟨#[]⟩, .int .i64 2, .int .i64 1048574, .string ⟨#[]⟩, .int .i64 2, .int .i64 1048576, .string ⟨#[]⟩, .int .i64 2, .int .i64 (-1), .string ⟨#[]⟩] 42)) fun e w' => e = .returned (.bool true) ∧ Below (wr.alloc (.cells #[.int .i64 1, .int .i64 1048575, .string ⟨#[110, 49, 59]⟩, .int .i64 1, .int .i64 1048574, .string ⟨#[110, 50, 59]⟩, .int .i64 1, .int .i64 1048574, .string ⟨#[110]⟩, .int .i64 2, .int .i64 1048575, .string ⟨#[]⟩, .int .i64 3, .int .i64 0, .string ⟨#[]⟩, .int .i64 0, .int .i64 0, .string ⟨#[]⟩, .int .i64 4, .int .i64 0, .string ⟨#[]⟩, .int .i64 2, .int .i64 1048574, .string ⟨#[]⟩, .int .i64 2, .int .i64 1048576, .string ⟨#[]⟩, .int .i64 2, .int .i64 (-1), .string ⟨#[]⟩] 42)).heap.size (wr.alloc (.cells #[.int .i64 1, .int .i64 1048575, .string ⟨#[110, 49, 59]⟩, .int .i64 1, .int .i64 1048574, .string ⟨#[110, 50, 59]⟩, .int .i64 1, .int .i64 1048574, .string ⟨#[110]⟩, .int .i64 2, .int .i64 1048575, .string ⟨#[]⟩, .int .i64 3, .int .i64 0, .string ⟨#[]⟩, .int .i64 0, .int .i64 0, .string ⟨#[]⟩, .int .i64 4, .int .i64 0, .string ⟨#[]⟩, .int .i64 2, .int .i64 1048574, .string ⟨#[]⟩, .int .i64 2, .int .i64 1048576, .string ⟨#[]⟩, .int .i64 2, .int .i64 (-1), .string ⟨#[]⟩] 42)) w') := fun cp => by
                    have := seedPlays_any ⟨#[110, 55, 59]⟩ (some ⟨wr.heap.size, 0 * 3, none⟩) cp ops (wr.alloc (.cells #[.int .i64 1, .int .i64 1048575, .string ⟨#[110, 49, 59]⟩, .int .i64 1, .int .i64 1048574, .string ⟨#[110, 50, 59]⟩, .int .i64 1, .int .i64 1048574, .string ⟨#[110]⟩, .int .i64 2, .int .i64 1048575, .string ⟨#[]⟩, .int .i64 3, .int .i64 0, .string ⟨#[]⟩, .int .i64 0, .int .i64 0, .string ⟨#[]⟩, .int .i64 4, .int .i64 0, .string ⟨#[]⟩, .int .i64 2, .int .i64 1048574, .string ⟨#[]⟩, .int .i64 2, .int .i64 1048576, .string ⟨#[]⟩, .int .i64 2, .int .i64 (-1), .string ⟨#[]⟩] 42)) (by decide) (by rw [hol]; decide) hops (HL.out.below B5.out) (HT.out.below B5.out) (HD.out.below B5.out)
                    rw [hol, Nat.zero_mul] at this
                    exact this
                  generalize wr.alloc (.cells #[.int .i64 1, .int .i64 1048575, .string ⟨#[110, 49, 59]⟩, .int .i64 1, .int .i64 1048574, .string ⟨#[110, 50, 59]⟩, .int .i64 1, .int .i64 1048574, .string ⟨#[110]⟩, .int .i64 2, .int .i64 1048575, .string ⟨#[]⟩, .int .i64 3, .int .i64 0, .string ⟨#[]⟩, .int .i64 0, .int .i64 0, .string ⟨#[]⟩, .int .i64 4, .int .i64 0, .string ⟨#[]⟩, .int .i64 2, .int .i64 1048574, .string ⟨#[]⟩, .int .i64 2, .int .i64 1048576, .string ⟨#[]⟩, .int .i64 2, .int .i64 (-1), .string ⟨#[]⟩] 42) = w5 at B5 HPL ⊢
                  clear hops hol K5 R5
                  generalize wr.heap.size = gx at HPL ⊢
                  go_wp2_with (first
                    | (go_at_call 5; (with_reducible refine Calls.mono (HPL.out _) ?_); rintro e w6 ⟨rfl, hb⟩; have B6 := Lib.hid (B5.out.trans (hb.mono B5.out.size)); clear hb)
                    | (go_at_call 4; (with_reducible refine Calls.mono (seedTells_any _ _ _ _ (by decide) (by decide) (HL.out.below B6.out) (HT.out.below B6.out) (HD.out.below B6.out)) ?_); rintro e w7 ⟨rfl, hb⟩; have B7 := Lib.hid (B6.out.trans (hb.mono B6.out.size)); clear hb)
                    | (go_at_call 14; (with_reducible refine Calls.mono (works_any _ (HL.out.below B7.out) (HT.out.below B7.out) (HD.out.below B7.out)) ?_); rintro e w8 ⟨rfl, hb⟩; have B8 := Lib.hid (B7.out.trans (hb.mono B7.out.size)); clear hb))
                  go_ret
                  exact ⟨rfl, B8.out⟩
end Go.Proofs.YtnaodgljdbkmnaaDoor
