/- onion: a route laid, walked -/
import Derived.Test.YtbdimlppnhcicaaDoorRou
import Derived.Test.YtbdimlppnhcicaaDoorOnW
namespace Go.Proofs.YtbdimlppnhcicaaDoor
set_option linter.unusedVariables false
open Go.RowKit
/-! onion: a route laid, walked -/
/-- a row of numbers below 2^32 lies there -/
def NumsAt (o : Option Addr) (l : List Nat) (w : World) : Prop := l = [] ∨ ∃ b off, o = some ⟨b, off, none⟩ ∧ ∀ (k : Nat) (v : Nat), l[k]? = some v → w.cell? ⟨b, off + k, none⟩ = some (.int .u32 (v : Int)) ∧ v ≤ 4294967295
theorem NumsAt.below {o : Option Addr} {l : List Nat} {w w' : World} (h : NumsAt o l w) (hb : Below w.heap.size w w') : NumsAt o l w' := by
  rcases h with h | ⟨b, off, h1, h2⟩
  · exact .inl h
  · exact .inr ⟨b, off, h1, fun k v hk => ⟨cell_later' hb (h2 k v hk).1, (h2 k v hk).2⟩⟩
theorem NumsAt.small {o : Option Addr} {l : List Nat} {w : World} (h : NumsAt o l w) : ∀ v ∈ l, v ≤ 4294967295 := by
  intro v hv
  rcases h with h | ⟨b, off, h1, h2⟩
  · rw [h] at hv; cases hv
  · obtain ⟨k, hk⟩ := List.getElem?_of_mem hv
    exact (h2 k v hk).2
theorem oname (n : Nat) (w : World) (hn : n ≤ 9223372036854775807) (hT : Tab w) : Calls Tryd.prog 24 #[.int .i64 (n : Int)] w fun e w' => e = .returned (.tuple #[.string (nameS (n : Int)), .int .i64 0]) ∧ Below w.heap.size w w' :=
  (name_any (n : Int) w (by omega) hT).mono fun e w' ⟨h1, h2⟩ => ⟨by rw [h1]; unfold nameV; rw [if_neg (by omega)], h2⟩
theorem opub (n : Nat) (w : World) (hn : n ≤ 9223372036854775807) (hL : LibOk w) : Calls Tryd.prog 54 #[.string (nameS (n : Int))] w fun e w' => e = .returned (.tuple #[.string (keyS (nameS (n : Int))), .int .i64 0]) ∧ Below w.heap.size w w' :=
  (pub_any (nameS (n : Int)) w (by have := (name_rt n hn).1.s; unfold maxLen; omega) hL).mono fun e w' ⟨h1, h2⟩ => ⟨by rw [h1, pubV_P, (key_rt n hn).1]; rfl, h2⟩
theorem node_any (i : Nat) (w : World) (hi : i ≤ 1000000) (hT : Tab w) : Calls Tryd.prog 23 #[.int .i64 (i : Int)] w fun e w' => e = .returned (.string (nameS ((100 + i : Nat) : Int))) ∧ Below w.heap.size w w' := by
  have HN := Lib.hid (oname (100 + i) w (by omega) hT)
  obtain ⟨s, hs⟩ : ∃ s, nameS ((100 + i : Nat) : Int) = s := ⟨_, rfl⟩
  rw [hs] at HN ⊢
  rw [show ((100 + i : Nat) : Int) = 100 + (i : Int) by omega] at HN
  have hi2 : (i : Int) ≤ 1000000 := by omega
  clear hs
  go_enter Tryd.func23, Tryd.ntmps23
  go_wp2_with (go_at_call 24; (with_reducible refine Calls.mono HN.out ?_); rintro e w1 ⟨rfl, hb⟩; have B1 := Lib.hid hb; clear hb)
  go_ret
  exact ⟨rfl, B1.out⟩
theorem pick_any (i : Int) (n : Nat) (w : World) (h0 : 0 < n) (hn : n ≤ 1000) (h1 : -9223372036854775808 ≤ i) (h2 : i ≤ 9223372036854775807) : Calls Tryd.prog 25 #[.int .i64 i, .int .i64 (n : Int)] w fun e w' => ∃ k : Nat, k < n ∧ e = .returned (.int .i64 (k : Int)) ∧ Below w.heap.size w w' := by
  have hn0 : ¬ (n : Int) ≤ 0 := by omega
  have hn1 : ((n : Int) == 0) = false := by simp; omega
  obtain ⟨r, hr⟩ : ∃ r, i.tmod (n : Int) = r := ⟨_, rfl⟩
  have hr1 : -(n : Int) < r := by rw [← hr]; have := Int.lt_tmod_of_pos i (show (0 : Int) < (n : Int) by omega); omega
  have hr2 : r < (n : Int) := by rw [← hr]; exact Int.tmod_lt_of_pos i (by omega)
  obtain ⟨q, hq⟩ : ∃ q, (r + (n : Int)).tmod (n : Int) = q := ⟨_, rfl⟩
  have hq0 : 0 ≤ q := by rw [← hq]; exact Int.tmod_nonneg _ (by omega)
  have hq2 : q < (n : Int) := by rw [← hq]; exact Int.tmod_lt_of_pos _ (by omega)
  have hn2 : (n : Int) ≤ 1000 := by omega
  go_enter Tryd.func25, Tryd.ntmps25
  go_wp2_with fail
  go_ret
  exact ⟨q.toNat, by omega, by rw [Int.toNat_of_nonneg hq0]; rfl, Below.refl _ _⟩
theorem own_apart {w : World} {base base' t u sz sz' n n' : Nat} {v v' : Value} {xs xs' : List Value} (h : w.ownsRow base t sz v n xs) (h' : w.ownsRow base' u sz' v' n' xs') (ht : t ≠ u) : ∀ g, v'.ownBlock = some g → v.ownBlock ≠ some g := by
  intro g hg e
  rcases h.2 with ⟨rfl, _⟩ | ⟨g1, cap, cur, rfl, _, hb, _⟩
  · cases e
  · have e1 : g1 = g := by simpa [Value.ownBlock] using e
    exact own_neT h' hb ht g hg e1.symm
theorem route_next {w0 w5 w7 : World} {X Y : Obj} {dv hv : Value} {n m : Nat} {xs ys : List Value} (HO5 : w5.ownsRow w0.heap.size 24 1 dv n xs) (HH5 : w5.ownsRow w0.heap.size 33 4 hv m ys) (HG : ((w5.alloc X).alloc Y).drew.grownBy w7 hv.ownBlock) (B5 : Below w0.heap.size w0 w5) : w7.ownsRow w0.heap.size 24 1 dv n xs ∧ Below w0.heap.size w0 w7 := by
  have hs := B5.size
  have h1 := below_new' w5 X
  have h2 := below_new' (w5.alloc X) Y
  have h3 : Below w5.heap.size w5 ((w5.alloc X).alloc Y).drew := (h1.trans (h2.mono h1.size)).drew
  refine ⟨own_blocks HO5 fun g hg => ?_, ?_⟩
  · have hlt := (HO5.lt g hg).2
    exact (HG.block g (Nat.lt_of_lt_of_le hlt h3.size) (fun e => own_apart HH5 HO5 (by decide) g hg e.symm)).trans (h3.block g hlt)
  · exact (B5.trans (h3.mono hs)).grown HG (Nat.le_trans hs h3.size) (fun g hg => (HH5.lt g hg).1)
theorem chr_at (i : Nat) (hi : i ≤ 100) (w : World) (g : Nat) (h : w.heap[g]? = some (.cells #[.int .u8 (97 + (i : Int))] 5 (0, 0))) : (convert 67 9 (.slice (some ⟨g, 0, none⟩) 1 1)).run Tryd.prog w = .ok (.string ⟨#[UInt8.ofNat (97 + i)]⟩) w := by
  refine run_convert_bytes_back w 67 9 5 ⟨g, 0, none⟩ 1 [UInt8.ofNat (97 + i)] Tryd.underlying67 Tryd.underlying5 Tryd.underlying9 (fun j hj => ?_)
  obtain rfl : j = 0 := by simpa using hj
  rw [show (⟨g, 0, none⟩ : Addr).add 0 = ⟨g, 0, none⟩ from rfl, cell_of_row _ _ _ _ _ _ h]
  simp only [List.getElem_cons_zero, UInt8.toNat_ofNat']
  rw [Nat.mod_eq_of_lt (by omega)]
  simp
set_option maxRecDepth 100000 in
set_option maxHeartbeats 8000000 in
theorem route_any (o : Option Addr) (l : List Nat) (c : Nat) (w : World) (hS : NumsAt o l w) (hl : l.length ≤ 100) (hL : LibOk w) (hT : Tab w) :
    Calls Tryd.prog 22 #[.slice o l.length c] w fun e w' => ∃ o1 c1 o2 c2, e = .returned (.tuple #[.slice o1 l.length c1, .slice o2 l.length c2]) ∧ StrsAt o1 (rDrawn l) w' ∧ HopsAt o2 (rHops l) w' ∧ Below w.heap.size w w' := by
  have HS := Lib.hid hS
  have HL := Lib.hid hL
  have HT := Lib.hid hT
  have HV := Lib.hid hS.small
  clear hS hL hT
  obtain ⟨i0, hi0, hz0, hz1, hz2⟩ := info_parts Tryd.info24'
  obtain ⟨j0, hj0, hy0, hy1, hy2⟩ := info_parts Try.info33
  go_enter Tryd.func22, Tryd.ntmps22
  go_wp2_with fail
  go_loopw [4, 5, 6] (fun dv hv iv wr => ∃ i : Nat, i ≤ l.length ∧ iv = .int .i64 i ∧ Hid (wr.ownsRow w.heap.size 24 1 dv i ((rDrawn (l.take i)).map Value.string)) ∧ Hid (wr.ownsRow w.heap.size 33 4 hv i (hopsC (rHops (l.take i)))) ∧ Hid (Below w.heap.size w wr)) (fun _ _ iv _ => l.length - (intOf iv).toNat)
  case atStart => exact ⟨0, Nat.zero_le _, rfl, World.ownsRow_nil _ _ _ _, World.ownsRow_nil _ _ _ _, Below.refl _ _⟩
  case round =>
    obtain ⟨i, hi, rfl, hd, hh, hB⟩ := hrel
    by_cases hlt : i < l.length
    · obtain ⟨v, hv⟩ : ∃ v, l[i]? = some v := ⟨_, List.getElem?_eq_getElem hlt⟩
      have hvs := HV.out v (List.mem_of_getElem? hv)
      have hne : l ≠ [] := by intro h; rw [h] at hlt; simp at hlt
      obtain ⟨lb, lf, rfl, hc⟩ := HS.out.resolve_left hne
      have c00 := (hc i v hv).1
      have HC : Hid (∀ W, Below w.heap.size w W → W.cell? ⟨lb, lf + i, none⟩ = some (.int .u32 (v : Int))) := fun W h => cell_later' h c00
      clear c00
      obtain ⟨da, dc, rfl⟩ := own_slice hd.out
      obtain ⟨ha, hc2, rfl⟩ := own_slice hh.out
      have hii : (i : Int) < (l.length : Int) := by omega
      have hi2 : (i : Int) ≤ 100 := by omega
      have hv2 : (v : Int) ≤ 4294967295 := by omega
      have HND : Hid (∀ W, Below w.heap.size w W → Calls Tryd.prog 23 #[.int .i64 (i : Int)] W fun e w' => e = .returned (.string (nameS ((100 + i : Nat) : Int))) ∧ Below W.heap.size W w') := fun W h => node_any i W (by omega) (HT.out.below h)
      have HPB : Hid (∀ W, Below w.heap.size w W → Calls Tryd.prog 54 #[.string (nameS ((100 + i : Nat) : Int))] W fun e w' => e = .returned (.tuple #[.string (keyS (nameS ((100 + i : Nat) : Int))), .int .i64 0]) ∧ Below W.heap.size W w') := fun W h => opub (100 + i) W (by omega) (HL.out.below h)
      have HNM : Hid (∀ W, Below w.heap.size w W → Calls Tryd.prog 24 #[.int .i64 (v : Int)] W fun e w' => e = .returned (.tuple #[.string (nameS (v : Int)), .int .i64 0]) ∧ Below W.heap.size W w') := fun W h => oname v W (by omega) (HT.out.below h)
      have hdl : ((rDrawn (l.take i)).map Value.string).length = i := by rw [List.length_map, rDrawn_len, List.length_take]; omega
      have hhl : (hopsC (rHops (l.take i))).length = i * 4 := by rw [hopsC_len, rHops_len, List.length_take]; omega
      have HDN : Hid ((rDrawn (l.take (i + 1))).map Value.string = (rDrawn (l.take i)).map Value.string ++ [Value.string (nameS (v : Int))]) := by
        show _ = _
        rw [List.take_add_one, hv]; simp [rDrawn]
      have hmd : (((v % 100000 : Nat) : Int)) = (v : Int).tmod 100000 := by rw [Int.tmod_eq_emod_of_nonneg (by omega)]; omega
      have HHN : Hid (hopsC (rHops (l.take (i + 1))) = hopsC (rHops (l.take i)) ++ [.string (⟨#[99]⟩ ++ ⟨#[UInt8.ofNat (97 + i)]⟩), .string (keyS (nameS ((100 + i : Nat) : Int))), .int .i64 ((v : Int) * 1000), .int .i64 ((v : Int).tmod 100000)]) := by
        show _ = _
        rw [List.take_add_one, hv]
        unfold rHops hopsC
        rw [Option.toList_some, List.mapIdx_append, List.flatMap_append, List.length_take, Nat.min_eq_left hi]
        congr 1
        show (rHop (0 + i) v).cells ++ [] = _
        have e : (⟨#[99]⟩ : ByteArray) ++ ⟨#[UInt8.ofNat (97 + i)]⟩ = ⟨#[99, UInt8.ofNat (97 + i)]⟩ := (mk_append [99] [UInt8.ofNat (97 + i)]).symm
        rw [List.append_nil, Nat.zero_add, ← hmd, e]
        rfl
      generalize nameS ((100 + i : Nat) : Int) = nn at HND HPB HHN
      generalize keyS nn = kn at HPB HHN
      generalize nameS (v : Int) = nv at HNM HDN
      have HCV : Hid (∀ (W : World) (g : Nat), W.heap[g]? = some (.cells #[.int .u8 (97 + (i : Int))] 5 (0, 0)) → (convert 67 9 (.slice (some ⟨g, 0, none⟩) 1 1)).run Tryd.prog W = .ok (.string ⟨#[UInt8.ofNat (97 + i)]⟩) W) := fun W g h => chr_at i (by omega) W g h
      have hcs : (⟨#[UInt8.ofNat (97 + i)]⟩ : ByteArray).size = 1 := rfl
      generalize (⟨#[UInt8.ofNat (97 + i)]⟩ : ByteArray) = ch at HCV HHN hcs
      have hcat := cat_any ⟨#[99]⟩ ch (by rw [hcs]; decide)
      obtain ⟨md, hmd2⟩ : ∃ md : Int, (v : Int).tmod 100000 = md := ⟨_, rfl⟩
      have hmd0 : 0 ≤ md := by omega
      have hmd1 : md < 100000 := by omega
      rw [hmd2] at HHN
      have hw1 : IntKind.u8.wrap (97 + (i : Int)) = 97 + (i : Int) := IntWalk.u8_in _ (by omega)
      have hw0 : IntKind.i64.wrap (97 + (i : Int)) = 97 + (i : Int) := IntWalk.i64_in _ (by omega)
      have hw2 : IntKind.i64.wrap (v : Int) = (v : Int) := IntWalk.i64_in _ (by omega)
      have hw3 : IntKind.i64.wrap ((v : Int) * 1000) = (v : Int) * 1000 := IntWalk.i64_in _ (by omega)
      have hw4 : IntKind.i64.wrap md = md := IntWalk.i64_in _ (by omega)
      clear hc hv hne hmd
      go_upto_region 8 with (first
        | (go_at_call 23; (with_reducible refine Calls.mono (HND.out _ hB.out) ?_); rintro e w1 ⟨rfl, hb⟩; have B1 := Lib.hid (hB.out.trans (hb.mono hB.out.size)); have X1 := Lib.hid hb; clear hb)
        | (go_at_call 54; (with_reducible refine Calls.mono (HPB.out _ B1.out) ?_); rintro e w2 ⟨rfl, hb⟩; have B2 := Lib.hid (B1.out.trans (hb.mono B1.out.size)); have X2 := Lib.hid (X1.out.trans (hb.mono X1.out.size)); have c2 := HC.out _ B2.out; clear hb)
        | (go_at_call 24; (with_reducible refine Calls.mono (HNM.out _ B2.out) ?_); rintro e w3 ⟨rfl, hb⟩; have B3 := Lib.hid (B2.out.trans (hb.mono B2.out.size)); have X3 := Lib.hid (X2.out.trans (hb.mono X2.out.size)); clear hb))
      have HD3 := Lib.hid ((own_below hd.out X3.out).alloc (.cells #[.string nv] 24))
      have HH3 := Lib.hid ((own_below hh.out X3.out).alloc (.cells #[.string nv] 24))
      have B4 := Lib.hid (B3.out.alloc B3.out.size (.cells #[.string nv] 24))
      go_upto_region 9 with (at_builtin; refine wpList_append_lies _ rfl _ _ _ rfl w.heap.size 24 i0 _ 1 16 Tryd.underlying22 hi0 hz0 hz1 hz2 rfl (by omega) (.slice da i dc) i ((rDrawn (l.take i)).map Value.string) rfl HD3.out ⟨w3.heap.size, 0, none⟩ 1 1 [.string nv] rfl rfl (World.news_of_block (cs := #[.string nv]) (t := 24) (fr := (0, 0)) (heap_alloc_at w3 _)) (by simp [Value.oneCell']) (by omega) (by unfold maxLen; omega) (by omega) (by have := B3.out.size; simp; omega) (w3.heap.size + 1) (by simp) ?_; intro g5 cap5 w5 hown5 hgrow5 hat5 hlt5; have HO5 := Lib.hid hown5; have B5 := Lib.hid (B4.out.grown hgrow5 (by have := B3.out.size; simp; omega) (fun g hg => (HD3.out.lt g hg).1)); have HH5 := Lib.hid (own_blocks HH3.out fun g hg => hgrow5.block g (HH3.out.lt g hg).2 (fun e => own_apart HD3.out HH3.out (by decide) g hg e.symm)); clear hown5 hgrow5 hat5)
      have c5 := HC.out _ B5.out
      have c6 := HC.out _ (B5.out.alloc B5.out.size (.cells #[.int .u8 (97 + (i : Int))] 5))
      have hcv := HCV.out (w5.alloc (.cells #[.int .u8 (97 + (i : Int))] 5)).drew w5.heap.size (heap_alloc_at w5 _)
      have HNB : Hid (∀ cs : Array Value, ((w5.alloc (.cells #[.int .u8 (97 + (i : Int))] 5)).alloc (.cells cs 33)).heap[w5.heap.size + 1]? = some (.cells cs 33 (0, 0))) := fun cs => by
        have h := heap_alloc_at (w5.alloc (.cells #[.int .u8 (97 + (i : Int))] 5)) (.cells cs 33)
        rwa [show (w5.alloc (.cells #[.int .u8 (97 + (i : Int))] 5)).heap.size = w5.heap.size + 1 by simp] at h
      go_region_law ((refine step_append_lies _ (by rfl) _ _ _ (by rfl) w.heap.size 33 j0 _ 4 48 Tryd.underlying23 hj0 hy0 hy1 hy2 rfl (by omega) (.slice ha i hc2) i (hopsC (rHops (l.take i))) (by rfl) (((HH5.out.alloc _).alloc _).drew) ⟨w5.heap.size + 1, 0, none⟩ 1 1 [.string (⟨#[99]⟩ ++ ch), .string kn, .int .i64 ((v : Int) * 1000), .int .i64 md] (by rfl) (by rfl) (World.news_of_block (cs := #[.string (⟨#[99]⟩ ++ ch), .string kn, .int .i64 ((v : Int) * 1000), .int .i64 md]) (t := 33) (fr := (0, 0)) (HNB.out _)) (by simp [Value.oneCell']) (by omega) (by unfold maxLen; omega) (by omega) (by have := B5.out.size; simp; omega) (w5.heap.size + 2) (by simp) ?_; intro g7 cap7 w7 hown7 hgrow7 hat7 hlt7; have HG7 := Lib.hid hgrow7; have HO7 := Lib.hid hown7; clear hgrow7 hown7 hat7))
      all_goals
        go_wp2_with fail
        go_roundw
      all_goals first
        | (case rel =>
            obtain ⟨hr1, hr2⟩ := route_next HO5.out HH5.out HG7.out B5.out
            exact ⟨i + 1, by omega, by go_num, by rw [HDN.out]; exact hr1, by rw [HHN.out]; exact HO7.out, hr2⟩)
        | (simp [intOf]; omega)
    · obtain rfl : i = l.length := by omega
      rw [List.take_length] at hd hh
      obtain ⟨o1, c1, rfl, hd2⟩ := own_strs hd.out (rDrawn_len l)
      obtain ⟨o2, c2, rfl, hh2⟩ := own_hops hh.out (rHops_len l) (fun x hx => by
        obtain ⟨k, hk⟩ := List.getElem?_of_mem hx
        have hkl := (List.getElem?_eq_some_iff.1 hk).1
        rw [rHops_len] at hkl
        obtain ⟨v, hv⟩ : ∃ v, l[k]? = some v := ⟨_, List.getElem?_eq_getElem hkl⟩
        rw [rHops_at hv] at hk
        cases hk
        exact ⟨by show 2 ≤ maxLen; decide, by have := (key_rt (100 + k) (by omega)).2.1.s; show (keyS _).size ≤ _; unfold maxLen; omega⟩)
      have HD := Lib.hid hd2
      have HH := Lib.hid hh2
      go_wp2_with fail
      go_ret2
      exact ⟨o1, c1, o2, c2, rfl, HD.out, HH.out, hB.out⟩
end Go.Proofs.YtbdimlppnhcicaaDoor
