/- The digest: the law DigestPieces walked. -/
import Derived.Test.YtkhbkckcgfddlaaDoorL
namespace Go.Proofs.YtkhbkckcgfddlaaDoor
open Go.RowKit
theorem Fr.grown {w w' : World} {row : Option Nat} (h : w.grownBy w' row) : Fr (fun k => some k = row) w w' := ⟨h.os, h.tape, h.output, h.size, fun k hk hn => h.block k hk hn⟩
/-- pieces lie there -/
def PcsAt (w : World) (a : Option Addr) (L : List (List Nat)) : Prop := L = [] ∨ ∃ b off, a = some ⟨b, off, none⟩ ∧ ∀ (k : Nat) (p : List Nat), L[k]? = some p → ∃ ai ci, w.cell? ⟨b, off + k, none⟩ = some (.slice ai p.length ci) ∧ BytesAt w ai p ∧ p.length ≤ ci
theorem PcsAt.below {w w' : World} {a : Option Addr} {L : List (List Nat)} (h : PcsAt w a L) (hb : Below w.heap.size w w') : PcsAt w' a L := by
  rcases h with h | ⟨b, off, ha, hk⟩
  · exact .inl h
  · refine .inr ⟨b, off, ha, fun k p hp => ?_⟩
    obtain ⟨ai, ci, h1, h2, h3⟩ := hk k p hp
    exact ⟨ai, ci, cell_later hb h1, h2.below hb, h3⟩
theorem BytesAt.fr {w w' : World} {pa : Option Addr} {p : List Nat} {S : Nat → Prop} (h : BytesAt w pa p) (hf : Fr S w w') (hn : p ≠ [] → ∀ g o, pa = some ⟨g, o, none⟩ → ¬ S g) : BytesAt w' pa p := by
  by_cases h0 : p = []
  · exact .inl h0
  · obtain ⟨g, o, ha, hc⟩ := h.resolve_left h0
    exact .inr ⟨g, o, ha, fun j x hj => hf.cell (hn h0 g o ha) (hc j x hj)⟩
/-- two states and all that was taken in -/
structure PSt (w : World) (base s1 s2 : Nat) (W : World) (f1 f2 al : List Nat) (n : Nat) (a : Option Addr) (c : Nat) : Prop where
  bel : Below w.heap.size w W
  st1 : StAt W s1 f1
  st2 : StAt W s2 f2
  own : W.ownsRow base 5 1 (.slice a n c) n (al.map B)
  l1 : s1 < base
  l2 : s2 < base
  g1 : w.heap.size ≤ s1
  g2 : w.heap.size ≤ s2
  ne : s1 ≠ s2
  lb : base ≤ W.heap.size
section
variable {w W W' : World} {base s1 s2 n c : Nat} {f1 f2 al : List Nat} {a : Option Addr}
theorem PSt.below (h : PSt w base s1 s2 W f1 f2 al n a c) (hb : Below W.heap.size W W') : PSt w base s1 s2 W' f1 f2 al n a c :=
  ⟨h.bel.trans (hb.mono h.bel.size), h.st1.below hb, h.st2.below hb, own_below h.own hb, h.l1, h.l2, h.g1, h.g2, h.ne, Nat.le_trans h.lb hb.size⟩
theorem PSt.keep {S : Nat → Prop} (h : PSt w base s1 s2 W f1 f2 al n a c) (hf : Fr S W W') (hS : ∀ k, k < W.heap.size → S k → w.heap.size ≤ k) (h1 : ¬ S s1) (h2 : ¬ S s2) (h3 : ∀ g, (Value.slice a n c).ownBlock = some g → ¬ S g) : PSt w base s1 s2 W' f1 f2 al n a c :=
  ⟨h.bel.trans (hf.toBelow hS h.bel.size), h.st1.fr hf h1, h.st2.fr hf h2, ownsRow_blocks h.own (fun g hg => hf.block g (h.own.lt g hg).2 (h3 g hg)) hf.size, h.l1, h.l2, h.g1, h.g2, h.ne, Nat.le_trans h.lb hf.size⟩
theorem PSt.write1 {f : List Nat} (h : PSt w base s1 s2 W f1 f2 al n a c) (hf : Fr (fun k => k = s1) W W') (hs : StAt W' s1 f) : PSt w base s1 s2 W' f f2 al n a c :=
  ⟨h.bel.trans (hf.toBelow (fun k _ hk => by rw [hk]; exact h.g1) h.bel.size), hs, h.st2.fr hf (fun e => h.ne e.symm), ownsRow_blocks h.own (fun g hg => hf.block g (h.own.lt g hg).2 (fun e => by have := (h.own.lt g hg).1; have := h.l1; omega)) hf.size, h.l1, h.l2, h.g1, h.g2, h.ne, Nat.le_trans h.lb hf.size⟩
theorem PSt.write2 {f : List Nat} (h : PSt w base s1 s2 W f1 f2 al n a c) (hf : Fr (fun k => k = s2) W W') (hs : StAt W' s2 f) : PSt w base s1 s2 W' f1 f al n a c :=
  ⟨h.bel.trans (hf.toBelow (fun k _ hk => by rw [hk]; exact h.g2) h.bel.size), h.st1.fr hf h.ne, hs, ownsRow_blocks h.own (fun g hg => hf.block g (h.own.lt g hg).2 (fun e => by have := (h.own.lt g hg).1; have := h.l2; omega)) hf.size, h.l1, h.l2, h.g1, h.g2, h.ne, Nat.le_trans h.lb hf.size⟩
theorem PSt.grow {n' c' : Nat} {a' : Option Addr} {al' : List Nat} (h : PSt w base s1 s2 W f1 f2 al n a c) (hg : W.grownBy W' (Value.slice a n c).ownBlock) (ho : W'.ownsRow base 5 1 (.slice a' n' c') n' (al'.map B)) : PSt w base s1 s2 W' f1 f2 al' n' a' c' := by
  have hf := Fr.grown hg
  have hlt := fun g (hg : some g = (Value.slice a n c).ownBlock) => h.own.lt g hg.symm
  have hbs : w.heap.size ≤ base := Nat.le_trans h.g1 (Nat.le_of_lt h.l1)
  exact ⟨h.bel.trans (hf.toBelow (fun k _ hk => Nat.le_trans hbs (hlt k hk).1) h.bel.size), h.st1.fr hf (fun e => by have := (hlt _ e).1; have := h.l1; omega), h.st2.fr hf (fun e => by have := (hlt _ e).1; have := h.l2; omega), ho, h.l1, h.l2, h.g1, h.g2, h.ne, Nat.le_trans h.lb hf.size⟩
theorem PSt.all (h : PSt w base s1 s2 W f1 f2 al n a c) : BytesAt W a al ∧ al.length ≤ c ∧ al.length = n := by
  obtain ⟨h1, h2⟩ := own_at h.own
  refine ⟨h1, h2, ?_⟩
  have := h.own.1
  rw [List.length_map] at this; omega
/-- what the calls answer in any world behind -/
theorem PSt.calls (h : PSt w base s1 s2 W f1 f1 f1 n a c) (ht : TabAt w) (hl : n ≤ 3000) : ∀ X, Below W.heap.size W X →
    (∀ s, (s = s1 ∨ s = s2) → Calls Tryd.prog 13 #[.pointer (some ⟨s, 0, none⟩)] X fun e w' => e = .returned (.agg (Bytes (sha f1))) ∧ Below X.heap.size X w') ∧
    (Calls Tryd.prog 7 #[.slice a n c] X fun e w' => e = .returned (.agg (Bytes (sha f1))) ∧ Below X.heap.size X w') ∧
    (Calls Tryd.prog 8 #[.slice a n c] X fun e w' => e = .returned (.agg (Bytes (sha f1))) ∧ Below X.heap.size X w') ∧
    (Calls Tryd.prog 11 #[] X fun e w' => e = .returned (.bool true) ∧ Below X.heap.size X w') := by
  intro X hX
  have hh := h.below hX
  have hT := ht.below hh.bel
  obtain ⟨ha, hc, hn⟩ := hh.all
  refine ⟨fun s hs => ?_, ?_, ?_, works_any X hT⟩
  · rcases hs with rfl | rfl
    · exact sum_any s f1 X hh.st1 hT (by omega)
    · exact sum_any s f1 X hh.st2 hT (by omega)
  · have := dsum_any a f1 c X ha hc hT (by omega)
    rw [hn] at this; exact this
  · have := rsum_any a f1 c X ha (by omega)
    rw [hn] at this; exact this
end
def total (L : List (List Nat)) : Nat := (L.map List.length).sum
theorem total_take {L : List (List Nat)} {k : Nat} {p : List Nat} (h : L[k]? = some p) : total (L.take (k + 1)) = total (L.take k) + p.length := by
  have hk := (List.getElem?_eq_some_iff.1 h).1
  rw [List.take_succ_eq_append_getElem hk]
  have : L[k] = p := by rw [List.getElem?_eq_getElem hk] at h; exact Option.some.inj h
  simp [total, this]
theorem flat_take {L : List (List Nat)} {k : Nat} {p : List Nat} (h : L[k]? = some p) : (L.take (k + 1)).flatten = (L.take k).flatten ++ p := by
  have hk := (List.getElem?_eq_some_iff.1 h).1
  rw [List.take_succ_eq_append_getElem hk]
  have : L[k] = p := by rw [List.getElem?_eq_getElem hk] at h; exact Option.some.inj h
  simp [this]
theorem total_mono (L : List (List Nat)) (k : Nat) : total (L.take k) ≤ total L := by
  have h : total L = total (L.take k) + total (L.drop k) := by
    unfold total
    rw [← List.sum_append, ← List.map_append, List.take_append_drop]
  omega
theorem flat_total (L : List (List Nat)) : L.flatten.length = total L := by unfold total; rw [List.length_flatten]
theorem total_bound (L : List (List Nat)) (hb : ∀ p ∈ L, p.length ≤ 140737488351232) : ∀ k, total (L.take k) ≤ 140737488351232 * k := by
  intro k
  have key : ∀ M : List (List Nat), (∀ p ∈ M, p.length ≤ 140737488351232) → total M ≤ 140737488351232 * M.length := by
    intro M
    induction M with
    | nil => intro _; simp [total]
    | cons p M ih =>
      intro h
      have h1 := h p (by simp)
      have h2 := ih (fun q hq => h q (by simp [hq]))
      have e : total (p :: M) = p.length + total M := by simp [total]
      rw [e, List.length_cons]; omega
  refine Nat.le_trans (key _ (fun p hp => hb p (List.mem_of_mem_take hp))) ?_
  rw [List.length_take]
  exact Nat.mul_le_mul_left _ (by omega)
set_option maxRecDepth 100000 in
theorem pieces_many (pa : Option Addr) (L : List (List Nat)) (n cap : Nat) (w : World) (hn : L.length = n) (h : 60 < n) (hm : n ≤ 9223372036854775807) (hp : PcsAt w pa L) : Calls Tryd.prog 4 #[.slice pa n cap] w fun e w' => e = .returned (.bool true) ∧ Below w.heap.size w w' := by
  have HP := Lib.hid hp
  have HN := Lib.hid hn
  have h6 : (60 : Int) < (n : Int) := by omega
  clear hp hn
  go_enter Tryd.func4, Tryd.ntmps4
  go_wp2
  go_loop [3, 4] (fun sv iv => ∃ (k : Nat) (y : Int), k ≤ n ∧ iv = .int .i64 k ∧ sv = .int .i64 y) (fun _ iv => n - (intOf iv).toNat)
  case atStart => exact ⟨0, 0, Nat.zero_le _, rfl, rfl⟩
  case round =>
    obtain ⟨k, y, hk, rfl, rfl⟩ := hrel
    by_cases hlt : k < n
    · obtain ⟨p, hpk⟩ : ∃ p, L[k]? = some p := ⟨_, List.getElem?_eq_getElem (by have := HN.out; omega)⟩
      have hne : L ≠ [] := by intro e; rw [e] at hpk; simp at hpk
      obtain ⟨b, off, rfl, hc⟩ := HP.out.resolve_left hne
      obtain ⟨ai, ci, c0, _, _⟩ := hc k p hpk
      have hkl : (k : Int) < (n : Int) := by omega
      clear hpk hne hc
      go_wp2
      go_round
      case rel => exact ⟨k + 1, _, by omega, by go_num, rfl⟩
      case measure => simp [intOf]; omega
    · obtain rfl : k = n := by omega
      have hkl : ¬ (k : Int) < (k : Int) := by omega
      by_cases hy : 3000 < y
      all_goals
        go_wp2
        go_ret
        exact ⟨rfl, Below.refl _ _⟩
set_option maxRecDepth 100000 in
set_option maxHeartbeats 4000000 in
theorem pieces_few (pa : Option Addr) (L : List (List Nat)) (n cap : Nat) (w : World) (hn : L.length = n) (h : n ≤ 60) (hb : ∀ p ∈ L, p.length ≤ 140737488351232) (hp : PcsAt w pa L) (ht : TabAt w) : Calls Tryd.prog 4 #[.slice pa n cap] w fun e w' => e = .returned (.bool true) ∧ Below w.heap.size w w' := by
  have HP := Lib.hid hp
  have HN := Lib.hid hn
  have HT := Lib.hid ht
  have HTB := Lib.hid (total_bound L hb)
  have h6 : ¬ (60 : Int) < (n : Int) := by omega
  clear hp hn ht hb
  go_enter Tryd.func4, Tryd.ntmps4
  go_wp2_with fail
  go_loop [3, 4] (fun sv iv => ∃ (k : Nat) (y : Int), k ≤ n ∧ iv = .int .i64 k ∧ sv = .int .i64 y ∧ 0 ≤ y ∧ y ≤ 8444249301073920 ∧ Hid (y = (total (L.take k) : Nat))) (fun _ iv => n - (intOf iv).toNat)
  case atStart => exact ⟨0, 0, Nat.zero_le _, rfl, rfl, by omega, by omega, rfl⟩
  case round =>
    obtain ⟨k, y, hk, rfl, rfl, hy0, hy1, hy⟩ := hrel
    by_cases hlt : k < n
    · obtain ⟨p, hpk⟩ : ∃ p, L[k]? = some p := ⟨_, List.getElem?_eq_getElem (by have := HN.out; omega)⟩
      have hne : L ≠ [] := by intro e; rw [e] at hpk; simp at hpk
      obtain ⟨b, off, rfl, hc⟩ := HP.out.resolve_left hne
      obtain ⟨ai, ci, c0, _, _⟩ := hc k p hpk
      have hkl : (k : Int) < (n : Int) := by omega
      obtain ⟨z, hz⟩ : ∃ z : Int, (p.length : Int) = z := ⟨_, rfl⟩
      have hz0 : 0 ≤ z := by omega
      have hnx := total_take hpk
      have hbd := HTB.out (k + 1)
      have hyz : y + z ≤ 8444249301073920 := by have := hy.out; omega
      have HY : Hid (y + z = ((total (L.take (k + 1)) : Nat) : Int)) := by show _ = _; have := hy.out; omega
      have HZ := Lib.hid hz
      have hyz0 : 0 ≤ y + z := by omega
      clear hpk hne hc hnx hbd hz
      go_wp2_with fail
      rw [HZ.out]
      have hw : wrap64 (y + z) = y + z := IntWalk.wrap64_in _ ⟨by omega, by omega⟩
      try rw [hw]
      go_round
      case rel => exact ⟨k + 1, y + z, by omega, by go_num, rfl, hyz0, hyz, HY.out⟩
      case measure => simp [intOf]; omega
    · obtain rfl : n = k := by omega
      have hkl : ¬ (n : Int) < (n : Int) := by omega
      have HTOT : Hid (y = (total L : Nat)) := by have := hy.out; rw [List.take_of_length_le (by have := HN.out; omega)] at this; exact this
      clear hy
      by_cases hy3 : 3000 < y
      · go_wp2_with fail
        go_ret
        exact ⟨rfl, Below.refl _ _⟩
      · have hy3' : y ≤ 3000 := by omega
        have HT3 : Hid (total L ≤ 3000) := by show _ ≤ _; have := HTOT.out; omega
        have hpos : Hid (0 < w.heap.size) := HT.out.pos
        go_upto_region 12 with (first
          | (go_at_call 12; (with_reducible refine Calls.mono (new_any w hpos.out) ?_); rintro e w1 ⟨s1, rfl, hs1, hb1, hg1⟩; have S1 := Lib.hid hs1; have B1 := Lib.hid hb1; have G1 := Lib.hid hg1; clear hs1 hb1 hg1)
          | (go_at_call 12; (with_reducible refine Calls.mono (new_any w1 (Nat.lt_of_lt_of_le hpos.out B1.out.size)) ?_); rintro e w2 ⟨s2, rfl, hs2, hb2, hg2⟩; have S2 := Lib.hid hs2; have B2 := Lib.hid hb2; have G2 := Lib.hid hg2; clear hs2 hb2 hg2))
        have P2 : Hid (PSt w w2.heap.size s1 s2 w2 [] [] [] 0 none 0) := by
          obtain ⟨_, _, _, h1⟩ := S1.out.row
          obtain ⟨_, _, _, h2⟩ := S2.out.row
          have l1 := lt_of_heap h1
          have l2 := lt_of_heap h2
          have g1 := G1.out
          have g2 := G2.out
          have z1 := B1.out.size
          have z2 := B2.out.size
          exact ⟨B1.out.trans (B2.out.mono z1), S1.out.below B2.out, S2.out, World.ownsRow_nil _ _ _ _, by omega, l2, g1, by omega, by omega, Nat.le_refl _⟩
        obtain ⟨base, hbase⟩ : ∃ base, w2.heap.size = base := ⟨_, rfl⟩
        rw [hbase] at P2
        clear hbase S1 S2 B1 B2 G1 G2 HTOT
        go_wp2_with fail
        go_loopw [7, 8] (fun av iv wr => ∃ (k m : Nat) (a0 : Option Addr) (c0 : Nat), k ≤ n ∧ iv = .int .i64 k ∧ av = .slice a0 m c0 ∧ Hid (PSt w base s1 s2 wr (L.take k).flatten (L.take k).flatten (L.take k).flatten m a0 c0)) (fun _ iv _ => n - (intOf iv).toNat)
        case atStart => exact ⟨0, 0, none, 0, Nat.zero_le _, rfl, rfl, P2.out⟩
        case round =>
          obtain ⟨k, m, a0, c0, hk, rfl, rfl, hS⟩ := hrel
          have hm0 : m ≤ 3000 := by
            have h1 := hS.out.all.2.2
            have h2 := total_mono L k
            have h3 := HT3.out
            rw [flat_total] at h1; omega
          have CALLS := Lib.hid (hS.out.calls HT.out hm0)
          obtain ⟨F, hF⟩ : ∃ F, (L.take k).flatten = F := ⟨_, rfl⟩
          have HF := Lib.hid hF
          rw [hF] at hS CALLS
          have heq := eql_sha F
          have hne := neq_sha F
          clear hF
          by_cases hlt : k < n
          · obtain ⟨p, hpk⟩ : ∃ p, L[k]? = some p := ⟨_, List.getElem?_eq_getElem (by have := HN.out; omega)⟩
            have hnl : L ≠ [] := by intro e; rw [e] at hpk; simp at hpk
            obtain ⟨b, off, rfl, hc⟩ := HP.out.resolve_left hnl
            obtain ⟨ai, ci, d0, d1, d2⟩ := hc k p hpk
            have hkl : (k : Int) < (n : Int) := by omega
            have HFN : Hid ((L.take (k + 1)).flatten = F ++ p) := by show _ = _; rw [flat_take hpk, HF.out]
            have hq3 : m + p.length ≤ 3000 := by
              have h1 := hS.out.all.2.2
              have h2 := total_mono L (k + 1)
              have h3 := HT3.out
              rw [← flat_total, HFN.out, List.length_append] at h2; omega
            have HM : Hid (F.length = m) := hS.out.all.2.2
            obtain ⟨q, hq⟩ : ∃ q, p.length = q := ⟨_, rfl⟩
            have HQ := Lib.hid hq
            have D0 := Lib.hid d0
            have D1 := Lib.hid d1
            rw [hq] at hq3 d2 D0
            clear hq hpk hnl hc d0 d1
            go_upto_region 18 with (first
              | (go_at_call 13; (with_reducible refine Calls.mono ((CALLS.out wr (Below.refl _ _)).1 s1 (.inl rfl)) ?_); rintro e w3 ⟨rfl, hb3⟩; have B3 := Lib.hid hb3; clear hb3)
              | (go_at_call 7; (with_reducible refine Calls.mono (CALLS.out w3 B3.out).2.1 ?_); rintro e w4 ⟨rfl, hb4⟩; have B4 := Lib.hid (lt2 B3.out hb4); clear hb4))
            have P4 := Lib.hid (hS.out.below B4.out)
            have d4 : w4.cell? ⟨b, off + k, none⟩ = some (.slice ai q ci) := cell_later P4.out.bel D0.out
            have hz4 : base ≤ w4.heap.size := P4.out.lb
            go_upto_region 19 with (at_builtin; refine wpList_app rfl (.tmp 50) (.tmp 54) rfl w4.heap.size (.slice none 0 0) 0 [] rfl (World.ownsRow_nil _ _ _ _) ai p ci (by rw [HQ.out]; rfl) (D1.out.below P4.out.bel) (by rw [HQ.out]; omega) (Nat.le_refl _) ?_; intro v5 w5 ho5 hg5 hx5; clear hx5; have B5 : Hid (Below w4.heap.size w4 w5) := ((Below.refl _ _).grown hg5 (Nat.le_refl _) (fun q hq => by cases hq)); have O5 : Hid (w5.ownsRow w4.heap.size 5 1 v5 q (p.map B)) := (by (have := ho5; rw [Nat.zero_add, HQ.out, List.nil_append] at this; exact this)); obtain ⟨a5, c5, rfl⟩ := own_slice O5.out; clear ho5 hg5)
            have P5 := Lib.hid (P4.out.below B5.out)
            have W5 : Hid (Calls Tryd.prog 14 #[.pointer (some ⟨s1, 0, none⟩), .slice a5 q c5] w5 fun e w' => e = .returned (.tuple #[]) ∧ StAt w' s1 (F ++ p) ∧ Fr (fun k => k = s1) w5 w') := by
              obtain ⟨h1, h2⟩ := own_at O5.out
              have := write_any s1 F p a5 c5 w5 P5.out.st1 h1 (fun _ g o e => by
                have hg := O5.out.lt g (by rw [e]; rfl)
                have := P5.out.l1
                omega) h2 (HT.out.below P5.out.bel) (by rw [HM.out, HQ.out]; omega)
              rw [HQ.out] at this; exact this
            go_upto_region 20 with (go_at_call 14; (with_reducible refine Calls.mono W5.out ?_); rintro e w6 ⟨rfl, hs6, hf6⟩; have P6 := Lib.hid (P5.out.write1 hf6 hs6); have F6 := Lib.hid hf6; clear hs6 hf6)
            have d6 : w6.cell? ⟨b, off + k, none⟩ = some (.slice ai q ci) := cell_later P6.out.bel D0.out
            have W6 : Hid (Calls Tryd.prog 14 #[.pointer (some ⟨s2, 0, none⟩), .slice ai q ci] w6 fun e w' => e = .returned (.tuple #[]) ∧ StAt w' s2 (F ++ p) ∧ Fr (fun k => k = s2) w6 w') := by
              have := write_any s2 F p ai ci w6 P6.out.st2 (D1.out.below P6.out.bel) (fun hp g o e => by
                have := D1.out.lt hp g o e
                have := P6.out.g2
                omega) (by rw [HQ.out]; exact d2) (HT.out.below P6.out.bel) (by rw [HM.out, HQ.out]; omega)
              rw [HQ.out] at this; exact this
            go_upto_region 21 with (go_at_call 14; (with_reducible refine Calls.mono W6.out ?_); rintro e w7 ⟨rfl, hs7, hf7⟩; have P7 := Lib.hid (P6.out.write2 hf7 hs7); have F7 := Lib.hid hf7; clear hs7 hf7)
            have OC : Hid (0 < q → ∃ g cur, a5 = some ⟨g, 0, none⟩ ∧ w4.heap.size ≤ g ∧ q ≤ cur.size ∧ w7.heap[g]? = some (.cells cur 5 (0, 0))) := by
              intro h0
              rcases O5.out.2 with ⟨_, h⟩ | ⟨g, cap', cur, hv, hg, hh, hc, _, hs, _⟩
              · omega
              · cases hv
                refine ⟨g, cur, rfl, hg, by omega, ?_⟩
                have hg5 := lt_of_heap hh
                have h1 := P5.out.l1
                have h2 := P5.out.l2
                exact F7.out.at_ (by omega) (F6.out.at_ (by omega) hh)
            have A5 : Hid (∀ g o, a5 = some ⟨g, o, none⟩ → w4.heap.size ≤ g) := fun g o e => (O5.out.lt g (by rw [e]; rfl)).1
            clear d4 d6 W5 W6 F6 F7
            go_wp2_with fail
            go_loopw [10] (fun jv wx => ∃ j : Nat, j ≤ q ∧ jv = .int .i64 j ∧ Hid (Fr (fun g => a5 = some ⟨g, 0, none⟩) w7 wx) ∧ Hid (0 < q → ∃ g cur, a5 = some ⟨g, 0, none⟩ ∧ w4.heap.size ≤ g ∧ q ≤ cur.size ∧ wx.heap[g]? = some (.cells cur 5 (0, 0)))) (fun jv _ => q - (intOf jv).toNat)
            case atStart => exact ⟨0, Nat.zero_le _, rfl, Fr.refl _ _, OC.out⟩
            case round =>
              obtain ⟨j, hj, rfl, hFr, hOC⟩ := hrel
              by_cases hjq : j < q
              · obtain ⟨g, cur, ha5, hg, hcs, hh⟩ := hOC.out (by omega)
                have hji : (j : Int) < (q : Int) := by omega
                obtain ⟨u, hu⟩ : ∃ u, cur[j]? = some u := ⟨_, Array.getElem?_eq_getElem (show j < cur.size by omega)⟩
                have cj := cell_of_row _ g j _ _ _ hh
                rw [hu] at cj
                have fj := frozen_of_row _ g j _ _ hh
                have HH := Lib.hid hh
                have HCS := Lib.hid hcs
                subst ha5
                clear hh hcs hu hOC
                go_wp2_with fail
                go_roundw
                case rel => exact ⟨j + 1, by omega, by go_num, hFr.out.set _ _ (fun _ => rfl), fun _ => ⟨g, cur.setIfInBounds j (.int .u8 238), rfl, hg, by rw [Array.size_setIfInBounds]; exact HCS.out, heap_setCell_same _ _ _ _ _ _ HH.out⟩⟩
                case measure => simp [intOf]; omega
              · obtain rfl : j = q := by omega
                have hji : ¬ (j : Int) < (j : Int) := by omega
                obtain ⟨w8, rfl⟩ : ∃ w8 : World, w8 = wr := ⟨_, rfl⟩
                have P8 : Hid (PSt w base s1 s2 w8 (F ++ p) (F ++ p) F m a0 c0) := P7.out.keep hFr.out
                  (fun g _ hg => by have := A5.out g 0 hg; have := P4.out.bel.size; omega)
                  (fun hg => by have := A5.out _ 0 hg; have := P7.out.l1; omega)
                  (fun hg => by have := A5.out _ 0 hg; have := P7.out.l2; omega)
                  (fun g hg hx => by have := A5.out _ 0 hx; have := (P4.out.own.lt g hg).2; omega)
                have d8 : w8.cell? ⟨b, off + k, none⟩ = some (.slice ai j ci) := cell_later P8.out.bel D0.out
                clear hFr hOC OC
                go_wp2_with (at_builtin; refine wpList_app rfl (.tmp 74) (.tmp 78) rfl base (.slice a0 m c0) m (F.map B) rfl P8.out.own ai p ci (by rw [HQ.out]; rfl) (D1.out.below P8.out.bel) (by rw [HQ.out]; omega) P8.out.lb ?_; intro v9 w9 ho9 hg9 hx9; clear hx9; have O9 : Hid (w9.ownsRow base 5 1 v9 (m + j) ((F ++ p).map B)) := (by (have := ho9; rw [HQ.out, ← List.map_append] at this; exact this)); have G9 := Lib.hid hg9; obtain ⟨a9, c9, rfl⟩ := own_slice O9.out; clear ho9 hg9)
                go_roundw
                case rel => exact ⟨k + 1, m + j, a9, c9, by omega, by go_num, rfl, by rw [HFN.out]; exact P8.out.grow G9.out O9.out⟩
                case measure => simp [intOf]; omega
          · obtain rfl : n = k := by omega
            have hkl : ¬ (n : Int) < (n : Int) := by omega
            have hc0 : Below wr.heap.size wr wr := Below.refl _ _
            have BEL := Lib.hid hS.out.bel
            go_wp2_with (first
              | (go_at_call 13; (with_reducible refine Calls.mono ((CALLS.out _ (by assumption)).1 _ (by first | exact .inl rfl | exact .inr rfl)) ?_); rintro e w9 ⟨rfl, hb9⟩; have hc9 : Below wr.heap.size wr w9 := lt2 (by assumption) hb9; clear hb9)
              | (go_at_call 7; (with_reducible refine Calls.mono ((CALLS.out _ (by assumption)).2.1) ?_); rintro e w9 ⟨rfl, hb9⟩; have hc9 : Below wr.heap.size wr w9 := lt2 (by assumption) hb9; clear hb9)
              | (go_at_call 8; (with_reducible refine Calls.mono ((CALLS.out _ (by assumption)).2.2.1) ?_); rintro e w9 ⟨rfl, hb9⟩; have hc9 : Below wr.heap.size wr w9 := lt2 (by assumption) hb9; clear hb9)
              | (go_at_call 11; (with_reducible refine Calls.mono ((CALLS.out _ (by assumption)).2.2.2) ?_); rintro e w10 ⟨rfl, hb9⟩; have hc10 : Below wr.heap.size wr w10 := lt2 (by assumption) hb9; clear hb9))
            go_ret
            exact ⟨rfl, BEL.out.trans (hc10.mono BEL.out.size)⟩
theorem digestPieces_any (pa : Option Addr) (L : List (List Nat)) (n cap : Nat) (w : World) (hn : L.length = n) (hm : n ≤ maxLen) (hb : ∀ p ∈ L, p.length ≤ 140737488351232) (hp : PcsAt w pa L) (ht : TabAt w) : Calls Tryd.prog 4 #[.slice pa n cap] w fun e w' => e = .returned (.bool true) ∧ Below w.heap.size w w' := by
  unfold maxLen at hm
  by_cases h : n ≤ 60
  · exact pieces_few pa L n cap w hn h hb hp ht
  · exact pieces_many pa L n cap w hn (by omega) (by omega) hp
end Go.Proofs.YtkhbkckcgfddlaaDoor
