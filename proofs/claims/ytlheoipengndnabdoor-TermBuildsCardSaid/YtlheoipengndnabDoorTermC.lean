import Derived.Test.YtlheoipengndnabDoorTermB
import Derived.Deep.RegionLaw
import Derived.Deep.AppendLies
import Derived.Deep.LoopGhost
import Derived.BigRegion
namespace Go.Proofs.YtlheoipengndnabDoor
open Go.RowKit

/-- the parts, from the first on -/
def kidsF (p : List UInt8 → Option (Sh × List UInt8)) : Nat → List (List UInt8) → Nat → List UInt8 → Option (List (List UInt8) × Nat × List UInt8)
  | 0, acc, d, l => some (acc, d, l)
  | k + 1, acc, d, l => match p l with
    | none => none
    | some (x, r) => kidsF p k (acc ++ [l.take (l.length - r.length)]) (max d (x.deep + 1)) r
theorem kidsF_eq (p : List UInt8 → Option (Sh × List UInt8)) : ∀ k acc d l, 1 ≤ d → kidsF p k acc d l = match kidsP p k l with
    | none => none
    | some (ks, e, t) => some (acc ++ ks, max d e, t) := by
  intro k
  induction k with
  | zero =>
    intro acc d l hd
    have : max d 1 = d := by omega
    simp only [kidsF, kidsP, List.append_nil, this]
  | succ k ih =>
    intro acc d l hd
    simp only [kidsF, kidsP]
    cases hp : p l with
    | none => rfl
    | some y =>
      obtain ⟨x, r⟩ := y
      simp only []
      rw [ih _ _ _ (by omega)]
      cases hk : kidsP p k r with
      | none => rfl
      | some z =>
        obtain ⟨ks, e, t⟩ := z
        have : max (max d (x.deep + 1)) e = max d (max (x.deep + 1) e) := by omega
        simp only [List.append_assoc, List.singleton_append, this]

theorem Tryd.info22 : (Tryd.prog.info? 22).map (fun i => (i.zero, i.size, i.bytes)) = some (some (.string ⟨#[]⟩), 1, 16) := by kernel_rfl
/-- the parts lie in a row of the call's own -/
def KidsAt (base : Nat) (kv : Value) (ks : List (List UInt8)) (w : World) : Prop :=
  ∃ vs : List ByteArray, vs.map (fun v => v.data.toList) = ks ∧ w.ownsRow base 22 1 kv vs.length (vs.map Value.string)
/-- what reader.term leaves -/
def TermPost (rb : Nat) (s : ByteArray) (o : Option (Sh × List UInt8)) (w : World) (e : Ending) (w' : World) : Prop :=
  w.grownBy w' (some rb) ∧ (∃ z, Rd rb s z w') ∧
    (o = none → e = .returned (.tuple #[.agg #[.int .u8 0, .int .i64 0, .string ⟨#[]⟩, .slice none 0 0, .int .i64 0], .bool false])) ∧
    (∀ x rest, o = some (x, rest) → ∃ (a : Nat) (u : ByteArray) (ko : Option Addr) (km kc : Nat), e = .returned (.tuple #[.agg #[.int .u8 x.op.toNat, .int .i64 x.n, .string u, .slice ko km kc, .int .i64 x.deep], .bool true]) ∧
      u.data.toList = x.text ∧ a ≤ s.size ∧ Rd rb s a w' ∧ s.data.toList.drop a = rest ∧ KidsAt w.heap.size (.slice ko km kc) x.kids w')

theorem Xs.grown {xb : Nat} {op n : Int} {t : ByteArray} {kv : Value} {d : Int} {w w' : World} {row : Option Nat} (h : Xs xb op n t kv d w) (hg : w.grownBy w' row) (hr : row ≠ some xb) : Xs xb op n t kv d w' := by
  rw [Xs, hg.block xb h.lt (fun e => hr e.symm)]; exact h
theorem alloc2_at (w : World) (o o' : Obj) : ((w.alloc o).alloc o').drew.heap[w.heap.size + 1]? = some o' := by
  show ((w.heap.push o).push o')[w.heap.size + 1]? = some o'
  rw [Array.getElem?_push, if_pos (by simp)]
theorem alloc2_first (w : World) (o o' : Obj) : ((w.alloc o).alloc o').drew.heap[w.heap.size]? = some o := by
  show ((w.heap.push o).push o')[w.heap.size]? = some o
  rw [Array.getElem?_push, if_neg (by simp), Array.getElem?_push, if_pos rfl]
theorem own_ge {w : World} {base : Nat} {e : TypeId} {v : Value} {n : Nat} {xs : List Value} (h : w.ownsRow base e 1 v n xs) : ∀ g, v.ownBlock = some g → base ≤ g := fun g hg => (h.lt g hg).1
theorem Fr.own {S : Nat → Prop} {a b c : World} {row : Option Nat} (h : Fr S a b) (k : b.grownBy c row) (hr : ∀ g, row = some g → a.heap.size ≤ g) : Fr S a c :=
  ⟨k.os.trans h.os, k.tape.trans h.tape, k.output.trans h.output, Nat.le_trans h.size k.size, fun i hi hn => (k.block i (Nat.lt_of_lt_of_le hi h.size) (fun e => by have := hr i e.symm; omega)).trans (h.block i hi hn)⟩
theorem below2 (w : World) (o o' : Obj) : Below w.heap.size w ((w.alloc o).alloc o').drew := (((Below.refl _ _).alloc (Nat.le_refl _) _).alloc (by simp) _).drew
theorem Rd.grown2 {rb : Nat} {s : ByteArray} {z : Int} {w w' : World} {row : Option Nat} (h : Rd rb s z w) (hg : w.grownBy w' row) (hr : row ≠ some rb) : Rd rb s z w' := by
  rw [Rd, hg.block rb h.lt (fun e => hr e.symm)]; exact h
theorem kids_next {R k j a a' dacc : Nat} {s : ByteArray} {acc : List (List UInt8)} {x : Sh} {rest : List UInt8} {res : Option (List (List UInt8) × Nat × List UInt8)}
    (h : kidsF (parse R) (k - j) acc dacc (s.data.toList.drop a) = res) (hj : j < k) (hp : parse R (s.data.toList.drop a) = some (x, rest)) (hd : s.data.toList.drop a' = rest) (_ha' : a' ≤ s.size) (haa : a ≤ a') (hsz : s.data.toList.length = s.size) :
    kidsF (parse R) (k - (j + 1)) (acc ++ [(s.data.toList.drop a).take (a' - a)]) (max dacc (x.deep + 1)) (s.data.toList.drop a') = res := by
  rw [show k - j = (k - (j + 1)) + 1 by omega] at h
  simp only [kidsF, hp] at h
  have e : (s.data.toList.drop a).length - rest.length = a' - a := by
    rw [← hd, List.length_drop, List.length_drop, hsz]; omega
  rw [e, ← hd] at h
  exact h
theorem Xs.below2 {xb : Nat} {op n : Int} {t : ByteArray} {kv : Value} {d : Int} {w : World} (h : Xs xb op n t kv d w) (o o' : Obj) : Xs xb op n t kv d ((w.alloc o).alloc o').drew := by
  have hb : Below w.heap.size w ((w.alloc o).alloc o').drew := (((Below.refl _ _).alloc (Nat.le_refl _) _).alloc (by simp) _).drew
  exact h.fr (Fr.below (S := fun _ => False) hb) (fun h => h)
set_option maxRecDepth 100000 in
set_option maxHeartbeats 8000000 in
theorem kids_any (rb xb at_ R k : Nat) (s : ByteArray) (op n : Int) (t : ByteArray) (w : World) (hs : s.size ≤ 16384) (hk : k ≤ 32) (hRR : R ≤ 64) (ha : at_ ≤ s.size) (hR : Rd rb s at_ w) (hX : Xs xb op n t (.slice none 0 0) 1 w) (hL : LibOk w) (hne : xb ≠ rb) (h6 : 6 ≤ rb) (h6' : 6 ≤ xb)
    (hT : ∀ (a : Nat) (W : World), a ≤ s.size → Rd rb s a W → LibOk W → Calls Tryd.prog 40 #[.pointer (some ⟨rb, 0, none⟩), .int .i64 R] W (TermPost rb s (parse R (s.data.toList.drop a)) W))
    (res : Option (List (List UInt8) × Nat × List UInt8)) (hres : kidsF (parse R) k [] 1 (s.data.toList.drop at_) = res) :
    Calls Tryd.prog 66 #[.pointer (some ⟨rb, 0, none⟩), .pointer (some ⟨xb, 0, none⟩), .int .i64 k, .int .i64 (R + 1)] w fun e w' => Fr (Two rb xb) w w' ∧
      (res = none → e = .returned (.bool false) ∧ ∃ (z m d : Int) (u : ByteArray) (kv : Value), Rd rb s z w' ∧ Xs xb op m u kv d w') ∧
      (∀ ks d rest, res = some (ks, d, rest) → e = .returned (.bool true) ∧ ∃ (a : Nat) (kv : Value), a ≤ s.size ∧ s.data.toList.drop a = rest ∧ Rd rb s a w' ∧ Xs xb op n t kv d w' ∧ KidsAt w.heap.size kv ks w') := by
  obtain ⟨i0, hi0, hz0, hz1, hz2⟩ := info_parts Tryd.info22
  have HT := Lib.hid hT; have HRES := Lib.hid hres; have HR := Lib.hid hR; have HX := Lib.hid hX; clear hT hres hR hX
  go_enter Tryd.func66, Tryd.ntmps66
  go_wp2_with fail
  go_loopw [13] (fun i wr => ∃ (j a dacc : Nat) (acc : List (List UInt8)) (kv : Value), i = .int .i64 j ∧ j ≤ k ∧ a ≤ s.size ∧ Hid (kidsF (parse R) (k - j) acc dacc (s.data.toList.drop a) = res) ∧ Hid (Fr (Two rb xb) w wr) ∧ Hid (Rd rb s a wr) ∧ Hid (Xs xb op n t kv dacc wr) ∧ Hid (KidsAt w.heap.size kv acc wr) ∧ acc.length = j) (fun i _ => k - (intOf i).toNat)
  case atStart => exact ⟨0, at_, 1, [], .slice none 0 0, rfl, by omega, ha, HRES.out, Fr.refl _ _, HR.out, HX.out, ⟨[], rfl, World.ownsRow_nil _ _ _ _⟩, rfl⟩
  case round =>
    obtain ⟨j, a, dacc, acc, kv, rfl, hj, hja, hF, hFr, hRd, hXs, hK, hacc⟩ := hrel
    obtain ⟨vs, hvs, hown⟩ := hK.out
    obtain ⟨o0, m0, c0', rfl⟩ : ∃ o m c, kv = .slice o m c := by
      rcases hown.2 with ⟨h, _⟩ | ⟨g, cap, cur, h, _⟩
      · exact ⟨_, _, _, h⟩
      · exact ⟨_, _, _, h⟩
    have HO := Lib.hid hown; have HVS := Lib.hid hvs; clear hown hvs hK
    by_cases hlt : j < k
    · have hzc0 := hRd.out.c0
      have hzc1 := hRd.out.c1
      have hL' : Hid (LibOk wr) := hL.fr hFr.out (by unfold Two; omega) (by unfold Two; omega)
      cases hp : parse R (s.data.toList.drop a) with
      | none =>
        have HP := Lib.hid hp; clear hp
        have HN : Hid (res = none) := by
          have h := hF.out
          rw [show k - j = (k - (j + 1)) + 1 by omega] at h
          simp only [kidsF, HP.out] at h
          exact h.symm
        go_wp2_with (go_at_call 40; (with_reducible refine Calls.mono (HT.out _ _ hja hRd.out hL'.out) ?_); rintro e w1 ⟨hg, ⟨z, hz⟩, hno, _⟩; obtain rfl := hno HP.out; clear hno; have HG := Lib.hid hg; have HZ := Lib.hid hz; clear hg hz)
        go_ret
        refine ⟨(hFr.out.trans (Fr.grown HG.out (.inl rfl))).alloc _, fun _ => ⟨rfl, z, n, dacc, t, _, HZ.out.below ((Below.refl _ _).alloc (Nat.le_refl _) _), ((hXs.out.fr (Fr.grown (S := fun k => k = rb) HG.out rfl) (fun h => hne h)).fr (Fr.alloc (Fr.refl (fun _ => False) _) _) (fun h => h))⟩, fun ks d rest h => (by rw [HN.out] at h; cases h)⟩
      | some y =>
        obtain ⟨x, rest⟩ := y
        have HP := Lib.hid hp; clear hp
        go_wp2_with (go_at_call 40; (with_reducible refine Calls.mono (HT.out _ _ hja hRd.out hL'.out) ?_); rintro e w1 ⟨hg, _, _, hyes⟩; obtain ⟨a', u, ko, km, kc, rfl, hu, ha', hz, hd, hk'⟩ := hyes _ _ HP.out; clear hyes; have hx1 := hXs.out.fr (Fr.grown (S := fun k => k = rb) hg rfl) (fun h => hne h); have hxc := hx1.c; have hxf3 := hx1.f 3; have hxf4 := hx1.f 4; have hcz0 := hz.c0; have hcz1 := hz.c1; have hxl := hx1.lt; have hrl := hz.lt; have HX1 := Lib.hid hx1; have HG := Lib.hid hg; have HZ := Lib.hid hz; have HD := Lib.hid hd; have HU := Lib.hid hu; have HK1 := Lib.hid hk'; clear hx1 hg hz hd hu hk')
        have haa : a ≤ a' := by
          obtain ⟨c, hc⟩ := parse_cons HP.out
          have := congrArg List.length hc
          rw [← HD.out] at this
          simp only [List.length_drop, List.length_cons, List.length_append] at this
          omega
        have b1 : (0 : Int) ≤ (a : Int) := by omega
        have b2 : (a : Int) ≤ (a' : Int) := by omega
        have hob : (Value.slice o0 m0 c0').ownBlock = none ∨ (Value.slice o0 m0 c0').ownBlock ≠ some rb := by
          rcases HO.out.2 with ⟨h, _⟩ | ⟨g, cap, cur, h, hg, _⟩
          · rw [h]; exact .inl rfl
          · rw [h]; right; intro h'; simp only [Value.ownBlock, Option.some.injEq] at h'; have := HR.out.lt; omega
        have HO1 := Lib.hid (HO.out.kept HG.out hob)
        have hob2 : (Value.slice o0 m0 c0').ownBlock ≠ some xb := by
          rcases HO.out.2 with ⟨h, _⟩ | ⟨g, cap, cur, h, hg, _⟩
          · rw [h]; intro h'; cases h'
          · rw [h]; intro h'; simp only [Value.ownBlock, Option.some.injEq] at h'; have := HX.out.lt; omega
        have HOB := Lib.hid hob2; clear hob2
        have hdp := (parse_deep R _ _ _ HP.out).2.1
        have hdq : (x.deep : Int) ≤ 64 := by omega
        have hsz : s.data.toList.length = s.size := by show s.data.toList.length = s.data.size; rw [Array.length_toList]
        have HSZ := Lib.hid hsz; clear hsz
        have HORB : Hid ((Value.slice o0 m0 c0').ownBlock ≠ some rb) := fun h' => by
          have := own_ge HO.out _ h'; have := HR.out.lt; omega
        have HXL : Hid (xb < w.heap.size) := HX.out.lt
        have hoy : (Value.slice o0 m0 c0').ownBlock ≠ some w1.heap.size := by
          intro h'
          have := (HO1.out.lt _ h').2
          omega
        have HOY := Lib.hid hoy; clear hoy
        have hvl : vs.length = j := by rw [← hacc, ← HVS.out, List.length_map]
        have HVL := Lib.hid hvl; clear hvl hob
        have hwl : w.heap.size ≤ w1.heap.size := by have h1 := HG.out.size; have h2 := hFr.out.size; omega
        go_wp2_with fail
        go_region_law ((refine step_append_lies _ (by rfl) _ _ _ (by rfl) w.heap.size 22 i0 _ 1 16 Tryd.underlying32 hi0 hz0 hz1 hz2 rfl (by omega) (.slice o0 m0 c0') vs.length (vs.map Value.string) (by rfl) (((HO1.out.alloc _).alloc _).drew) ⟨w1.heap.size + 1, 0, none⟩ 1 1 [.string (s.extract a a')] (by rfl) (by rfl) (World.news_of_block (cs := #[.string (s.extract a a')]) (t := 22) (fr := (0, 0)) (alloc2_at w1 _ _)) (by simp [Value.oneCell']) (by omega) (by rw [HVL.out]; unfold maxLen; omega) (by rw [HVL.out]; omega) (by simp; omega) (w1.heap.size + 2) (by simp) ?_; intro g cap w2 hown2 hgrow hat hlt2; have hx2 := Xs.grown (HX1.out.below2 _ _) hgrow HOB.out; have hx2c := hx2.c.2.2.2.1; have hx2f := hx2.f 3; have hy2 : w2.heap[w1.heap.size]? = some (.cells #[.int .u8 x.op.toNat, .int .i64 x.n, .string u, .slice ko km kc, .int .i64 x.deep] 38 (0, 0)) := (hgrow.block _ (by simp; omega) (fun e => HOY.out e.symm)).trans (alloc2_first w1 _ _); have hy2c : w2.cell? ⟨w1.heap.size, 4, none⟩ = some (.int .i64 x.deep) := (by simp [World.cell?, hy2]); have hx2d := hx2.c.2.2.2.2; have hx2f4 := hx2.f 4; clear hy2; have HX2 := Lib.hid hx2; have HG2 := Lib.hid hgrow; have HO2 := Lib.hid hown2; clear hx2 hgrow hown2))
        all_goals go_wp2_with fail
        all_goals go_region
        all_goals go_wp2
        all_goals
          go_roundw
          case rel =>
            refine ⟨j + 1, a', max dacc (x.deep + 1), acc ++ [(s.data.toList.drop a).take (a' - a)], .slice (some ⟨g, 0, none⟩) (vs.length + 1) cap, by go_num, by omega, ha', ?_, ?_, ?_, ?_, ?_, by simp [hacc]⟩
            · exact kids_next hF.out (by omega) HP.out HD.out ha' haa HSZ.out
            · exact ((((hFr.out.trans (Fr.grown HG.out (.inl rfl))).alloc _).alloc _).drewN 1).own HG2.out (own_ge HO.out) |>.set _ _ _ (.inr rfl) |>.set _ _ _ (.inr rfl) |>.drewN 1
            · exact ((Rd.grown2 (Rd.below (HZ.out) (below2 w1 _ _)) HG2.out HORB.out).setX hne _ _).setX hne _ _
            · have := (HX2.out.setK (.slice (some ⟨g, 0, none⟩) (vs.length + 1) cap)).setD ((max dacc (x.deep + 1) : Nat) : Int)
              rw [show ((max dacc (x.deep + 1) : Nat) : Int) = max (dacc : Int) ((x.deep : Int) + 1) by omega] at this ⊢
              exact this
            · refine ⟨vs ++ [s.extract a a'], ?_, ?_⟩
              · rw [List.map_append, HVS.out, List.map_cons, List.map_nil, Lib.extract_data]
              · rw [List.length_append, List.map_append]
                exact (ownsRow_setCell_below (ownsRow_setCell_below HO2.out (a := ⟨xb, 3, none⟩) HXL.out _) (a := ⟨xb, 4, none⟩) HXL.out _).drew
          case measure => simp [intOf]; omega
    · obtain rfl : j = k := by omega
      have HN : Hid (res = some (acc, dacc, s.data.toList.drop a)) := by
        have h := hF.out
        rw [Nat.sub_self] at h
        exact h.symm
      go_wp2
      go_ret
      refine ⟨hFr.out, fun h => (by rw [HN.out] at h; cases h), fun ks d rest h => ?_⟩
      rw [HN.out] at h
      cases h
      exact ⟨rfl, a, _, hja, rfl, hRd.out, hXs.out, vs, HVS.out, HO.out⟩

end Go.Proofs.YtlheoipengndnabDoor
