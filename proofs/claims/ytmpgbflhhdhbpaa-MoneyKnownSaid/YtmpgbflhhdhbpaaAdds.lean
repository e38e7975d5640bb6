/- The walks of the money functions: what each computes. -/
import Derived.Test.YtmpgbflhhdhbpaaRows
import Derived.Test.YtmpgbflhhdhbpaaMath
import Derived.Test.YtmpgbflhhdhbpaaDiv
import Derived.Test.YtmpgbflhhdhbpaaShare
import Derived.Test.YtmpgbflhhdhbpaaShelf
import Derived.Test.YtmpgbflhhdhbpaaWalk1
import Derived.Test.YtmpgbflhhdhbpaaWalk2
import Derived.Test.YtmpgbflhhdhbpaaWalk3
import Derived.Test.YtmpgbflhhdhbpaaWalk4
import Derived.Test.YtmpgbflhhdhbpaaWalk5
import Derived.WalkKit
import Derived.WalkSpells
import Derived.WalkLawsBesides
import Derived.Handy
import Derived.Deep.QuietTactic
import Derived.BigQuiet
import Derived.Deep.LoopGhost
namespace Go.Proofs.Ytmpgbflhhdhbpaa
open Go.RowKit

def valO (o : Option Int) : Int := o.getD 0
def errO (o : Option Int) : Int := if o.isSome then 0 else 40
theorem opt_val {o : Option Int} {w : World} {e : Ending} {w' : World} (h : OptPost o w e w') : e = .returned (.tuple #[.int .i64 (valO o), .int .i64 (errO o)]) ∧ Below w.heap.size w w' := by
  obtain ⟨h1, h2, h3⟩ := h
  cases ho : o with
  | none => exact ⟨h3 ho, h1⟩
  | some v => exact ⟨h2 v ho, h1⟩
theorem below_cells {W w1 : World} (hb : Below W.heap.size W w1) : (∀ b o, b < W.heap.size → w1.cell? ⟨b, o, none⟩ = W.cell? ⟨b, o, none⟩) :=
  fun b o h => hb.cell (p := ⟨b, o, none⟩) h
theorem drewN_size (w : World) (n : Nat) : (w.drewN n).heap.size = w.heap.size := by
  induction n with
  | zero => rfl
  | succ n ih => exact ih
theorem own_row {w : World} {base : Nat} {e : TypeId} {v : Value} {n : Nat} {xs : List Value} (h : w.ownsRow base e 1 v n xs) (hn : 1 ≤ n) :
    ∃ g cap, v = .slice (some ⟨g, 0, none⟩) n cap ∧ base ≤ g ∧ g < w.heap.size ∧ xs.length = n ∧ ∀ j u, xs[j]? = some u → w.cell? ⟨g, j, none⟩ = some u := by
  have h' := h
  obtain ⟨hl, hn0 | ⟨g, cap, cur, hv, hg, hh, hc, hm, hs, ht⟩⟩ := h
  · omega
  · refine ⟨g, cap, hv, hg, ?_, by omega, fun j u hu => ?_⟩
    · exact (h'.lt g (by rw [hv]; rfl)).2
    · have := h'.cells (g := g) (by rw [hv]; rfl) j u hu
      have e : (⟨g, 0, none⟩ : Addr).add j = ⟨g, j, none⟩ := by cases j <;> simp [Addr.add]
      rwa [e] at this
theorem Try.info2 : (Try.prog.info? 2).map (fun i => (i.zero, i.size, i.bytes)) = some (some (.int .i64 0), 1, 8) := by kernel_rfl
theorem sum_nil (w : World) : Calls Try.prog 19 #[.slice none 0 0] w (OptPost (sumGo 0 []) w) := by
  go_enter Try.func19, Try.ntmps19
  go_wp2
  refine wp_loop_once ?_
  go_wp2
  go_ret2
  exact OptPost.yes (Below.refl _ _) rfl
theorem sumr_nil (o : Option Addr) (cap : Nat) (w : World) : Calls Try.prog 22 #[.slice o 0 cap] w (OptPost (sumGo 0 []) w) := by
  go_enter Try.func22, Try.ntmps22
  go_wp2
  refine wp_loop_once ?_
  go_wp2
  go_ret2
  exact OptPost.yes (Below.refl _ _) rfl
set_option maxHeartbeats 2000000 in
theorem adds_empty (o : Option Addr) (cap : Nat) (ho : o = none ∨ ∃ x, o = some x) (a' b' : Int) (w : World) : Calls Try.prog 5 #[.slice o 0 cap, .int .i64 a', .int .i64 b'] w (TruePost w) := by
  obtain ⟨i0, hi, hz0, hz1, hz2⟩ := info_parts Try.info2
  rcases ho with rfl | ⟨x, rfl⟩
  · go_enter Try.func5, Try.ntmps5
    go_wp2_with (first | (go_at_call 17; (with_reducible refine Calls.mono (add_any a' b' _) ?_); rintro e w1 k1; obtain ⟨rfl, hb1⟩ := opt_val k1; clear k1; have z1 := hb1.size; try simp only [World.size_alloc] at z1) | (go_at_call 18; (with_reducible refine Calls.mono (sub_any a' b' _) ?_); rintro e w2 k2; obtain ⟨rfl, hb2⟩ := opt_val k2; clear k2; have z2 := hb2.size; try simp only [World.size_alloc] at z2) | (go_at_call 19; (with_reducible refine Calls.mono (sum_nil _) ?_); rintro e w3 k3; obtain ⟨rfl, hb3⟩ := opt_val k3; clear k3; have z3 := hb3.size; try simp only [World.size_alloc] at z3) | (go_at_call 20; (with_reducible refine Calls.mono (addr_any a' b' _) ?_); rintro e w4 k4; obtain ⟨rfl, hb4⟩ := opt_val k4; clear k4; have z4 := hb4.size; try simp only [World.size_alloc] at z4) | (go_at_call 21; (with_reducible refine Calls.mono (subr_any a' b' _) ?_); rintro e w5 k5; obtain ⟨rfl, hb5⟩ := opt_val k5; clear k5; have z5 := hb5.size; try simp only [World.size_alloc] at z5) | (go_at_call 22; (with_reducible refine Calls.mono (sumr_nil _ _ _) ?_); rintro e w6 k6; obtain ⟨rfl, hb6⟩ := opt_val k6; clear k6; have z6 := hb6.size; try simp only [World.size_alloc] at z6) | (go_at_call 15; (with_reducible refine Calls.mono (works_any _) ?_); rintro e w7 ⟨rfl, hb7⟩; have z7 := hb7.size; try simp only [World.size_alloc] at z7) | go_in)
    refine wp_loop_once ?_
    go_wp2_with (first | (go_at_call 15; (with_reducible refine Calls.mono (works_any _) ?_); rintro e w7 ⟨rfl, hb7⟩; have z7 := hb7.size; try simp only [World.size_alloc] at z7) | go_in)
    all_goals
      go_ret
      exact ⟨rfl, by (repeat' (first | (with_reducible exact Below.refl _ _) | (with_reducible refine Below.alloc ?_ ?_ _) | (with_reducible refine Below.drew ?_) | (with_reducible refine Below.setCell ?_ ?_ _) | (with_reducible refine below_drewN ?_ _) | (refine Below.trans ?_ (Below.mono (by assumption) ?_)) | go_size))⟩
  · go_enter Try.func5, Try.ntmps5
    go_wp2_with (first | (at_builtin; refine wpList_append_own _ rfl _ _ 30 rfl w.heap.size 2 i0 (.int .i64 0) 1 8 Try.underlying30 hi hz0 hz1 hz2 rfl (by decide) _ 0 [] rfl (World.ownsRow_nil _ _ _ _) x 0 cap [] rfl rfl (by simp) (by simp) (by unfold maxLen; omega) (by omega) (Nat.le_refl _) ?_; intro v' w1 hown hg hiff; obtain rfl := hiff.2 ⟨rfl, rfl⟩; have hb0 := (Below.refl w.heap.size w).grown hg (Nat.le_refl _) (fun k hk => by cases hk); clear hown hiff; have z0 := hg.size) | (go_at_call 17; (with_reducible refine Calls.mono (add_any a' b' _) ?_); rintro e w1 k1; obtain ⟨rfl, hb1⟩ := opt_val k1; clear k1; have z1 := hb1.size; try simp only [World.size_alloc] at z1) | (go_at_call 18; (with_reducible refine Calls.mono (sub_any a' b' _) ?_); rintro e w2 k2; obtain ⟨rfl, hb2⟩ := opt_val k2; clear k2; have z2 := hb2.size; try simp only [World.size_alloc] at z2) | (go_at_call 19; (with_reducible refine Calls.mono (sum_nil _) ?_); rintro e w3 k3; obtain ⟨rfl, hb3⟩ := opt_val k3; clear k3; have z3 := hb3.size; try simp only [World.size_alloc] at z3) | (go_at_call 20; (with_reducible refine Calls.mono (addr_any a' b' _) ?_); rintro e w4 k4; obtain ⟨rfl, hb4⟩ := opt_val k4; clear k4; have z4 := hb4.size; try simp only [World.size_alloc] at z4) | (go_at_call 21; (with_reducible refine Calls.mono (subr_any a' b' _) ?_); rintro e w5 k5; obtain ⟨rfl, hb5⟩ := opt_val k5; clear k5; have z5 := hb5.size; try simp only [World.size_alloc] at z5) | (go_at_call 22; (with_reducible refine Calls.mono (sumr_nil _ _ _) ?_); rintro e w6 k6; obtain ⟨rfl, hb6⟩ := opt_val k6; clear k6; have z6 := hb6.size; try simp only [World.size_alloc] at z6) | (go_at_call 15; (with_reducible refine Calls.mono (works_any _) ?_); rintro e w7 ⟨rfl, hb7⟩; have z7 := hb7.size; try simp only [World.size_alloc] at z7) | go_in)
    refine wp_loop_once ?_
    go_wp2_with (first | (go_at_call 15; (with_reducible refine Calls.mono (works_any _) ?_); rintro e w7 ⟨rfl, hb7⟩; have z7 := hb7.size; try simp only [World.size_alloc] at z7) | go_in)
    all_goals
      go_ret
      exact ⟨rfl, by (repeat' (first | (with_reducible exact Below.refl _ _) | (with_reducible refine Below.alloc ?_ ?_ _) | (with_reducible refine Below.drew ?_) | (with_reducible refine Below.setCell ?_ ?_ _) | (with_reducible refine below_drewN ?_ _) | (refine Below.trans ?_ (Below.mono (by assumption) ?_)) | go_size))⟩

set_option maxHeartbeats 1000000 in
theorem adds_long (o : Option Addr) (len cap : Nat) (h0 : 1001 ≤ len) (a' b' : Int) (w : World) : Calls Try.prog 5 #[.slice o len cap, .int .i64 a', .int .i64 b'] w (TruePost w) := by
  go_enter Try.func5, Try.ntmps5
  go_wp2
  go_ret
  exact ⟨rfl, Below.refl _ _⟩

set_option maxHeartbeats 2000000 in
theorem adds_more (b off cap : Nat) (zs : List Int) (h0 : 1 ≤ zs.length) (h1 : zs.length ≤ 1000) (a' b' : Int) (w : World) (hbw : b < w.heap.size)
    (hc : ∀ j, j < zs.length → w.cell? ⟨b, off + j, none⟩ = some (.int .i64 (zs.getD j 0))) :
    Calls Try.prog 5 #[.slice (some ⟨b, off, none⟩) zs.length cap, .int .i64 a', .int .i64 b'] w (TruePost w) := by
  obtain ⟨i0, hi, hz0, hz1, hz2⟩ := info_parts Try.info2
  have HC := Lib.hid hc; clear hc
  have HO : Hid (sumGo 0 zs = sumGo 0 zs) := rfl
  obtain ⟨len, hl⟩ : ∃ len, zs.length = len := ⟨_, rfl⟩
  have HL := Lib.hid hl; rw [hl] at h0 h1 ⊢; clear hl
  have HN : Hid (∀ (j : Nat) (u : Value), (zs.map (Value.int .i64))[j]? = some u → w.cell? ((⟨b, off, none⟩ : Addr).add j) = some u) := by
    intro j u hu
    rw [List.getElem?_map] at hu
    cases hz : zs[j]? with
    | none => rw [hz] at hu; cases hu
    | some x =>
      rw [hz] at hu; cases hu
      have hj : j < zs.length := by
        rcases Nat.lt_or_ge j zs.length with h | h
        · exact h
        · rw [List.getElem?_eq_none h] at hz; cases hz
      have e : (⟨b, off, none⟩ : Addr).add j = ⟨b, off + j, none⟩ := by cases j <;> simp [Addr.add]
      have := HC.out j hj
      rw [List.getD_eq_getElem?_getD, hz] at this
      rw [e]; exact this
  have HS : Hid (∀ (W : World) (g : Nat) (c : Nat), (∀ j u, (zs.map (Value.int .i64))[j]? = some u → W.cell? ⟨g, j, none⟩ = some u) → Calls Try.prog 19 #[.slice (some ⟨g, 0, none⟩) len c] W (OptPost (sumGo 0 zs) W)) := by
    intro W g c h
    have hL := HL.out
    subst hL
    refine sum_any g 0 c zs _ W (by omega) rfl fun j hj => ?_
    have := h j (.int .i64 (zs.getD j 0)) (by rw [List.getElem?_map, List.getD_eq_getElem?_getD, List.getElem?_eq_getElem hj]; rfl)
    simpa using this
  have HR : Hid (∀ (W : World), (∀ j, j < zs.length → W.cell? ⟨b, off + j, none⟩ = some (.int .i64 (zs.getD j 0))) → Calls Try.prog 22 #[.slice (some ⟨b, off, none⟩) len cap] W (OptPost (sumGo 0 zs) W)) := by
    intro W h
    have hL := HL.out
    subst hL
    exact sumr_any b off cap zs _ W (by omega) rfl h
  go_enter Try.func5, Try.ntmps5
  go_wp2_with (first | (at_builtin; refine wpList_append_own _ rfl _ _ 30 rfl w.heap.size 2 i0 (.int .i64 0) 1 8 Try.underlying30 hi hz0 hz1 hz2 rfl (by decide) _ 0 [] rfl (World.ownsRow_nil _ _ _ _) ⟨b, off, none⟩ len cap (zs.map (Value.int .i64)) rfl ?c1 HN.out ?c2 ?c3 ?c4 (Nat.le_refl _) ?_) | go_in)
  case c1 => simpa using HL.out
  case c2 =>
    intro u hu
    rfl
  case c3 => unfold maxLen; omega
  case c4 => omega
  intro v' w1 hown hg hiff
  have hb0 := (Below.refl w.heap.size w).grown hg (Nat.le_refl _) (fun k hk => by cases hk)
  obtain ⟨g, cap', hv, hgb, hgs, _, hcs⟩ := own_row hown (by omega)
  rw [hv]
  clear hiff hown hv hg
  have z0 := hb0.size
  have HCS := Lib.hid hcs; clear hcs
  go_wp2_with (first | (go_at_call 17; (with_reducible refine Calls.mono (add_any a' b' _) ?_); rintro e w1 k1; obtain ⟨rfl, hb1⟩ := opt_val k1; clear k1; have z1 := hb1.size; try simp only [World.size_alloc] at z1) | (go_at_call 18; (with_reducible refine Calls.mono (sub_any a' b' _) ?_); rintro e w2 k2; obtain ⟨rfl, hb2⟩ := opt_val k2; clear k2; have z2 := hb2.size; try simp only [World.size_alloc] at z2) | fail)
  have HCS2 : Hid (∀ j u, (zs.map (Value.int .i64))[j]? = some u → w2.cell? ⟨g, j, none⟩ = some u) := fun j u hu => by
    rw [below_cells hb2 _ _ (by omega), below_cells hb1 _ _ (by omega)]; exact HCS.out j u hu
  refine (HS.out _ g cap' HCS2.out).mono ?_
  rintro e w3 k3; obtain ⟨rfl, hb3⟩ := opt_val k3; clear k3; have z3 := hb3.size
  go_wp2_with (first | (go_at_call 20; (with_reducible refine Calls.mono (addr_any a' b' _) ?_); rintro e w4 k4; obtain ⟨rfl, hb4⟩ := opt_val k4; clear k4; have z4 := hb4.size; try simp only [World.size_alloc] at z4) | (go_at_call 21; (with_reducible refine Calls.mono (subr_any a' b' _) ?_); rintro e w5 k5; obtain ⟨rfl, hb5⟩ := opt_val k5; clear k5; have z5 := hb5.size; try simp only [World.size_alloc] at z5) | fail)
  have HC5 : Hid (∀ j, j < zs.length → w5.cell? ⟨b, off + j, none⟩ = some (.int .i64 (zs.getD j 0))) := fun j hj => by
    rw [below_cells hb5 _ _ (by omega), below_cells hb4 _ _ (by omega), below_cells hb3 _ _ (by omega), below_cells hb2 _ _ (by omega), below_cells hb1 _ _ (by omega), below_cells hb0 _ _ (by omega)]; exact HC.out j hj
  have HCS5 : Hid (∀ j u, (zs.map (Value.int .i64))[j]? = some u → w5.cell? ⟨g, j, none⟩ = some u) := fun j u hu => by
    rw [below_cells hb5 _ _ (by omega), below_cells hb4 _ _ (by omega), below_cells hb3 _ _ (by omega)]; exact HCS2.out j u hu
  refine (HR.out _ HC5.out).mono ?_
  rintro e w6 k6; obtain ⟨rfl, hb6⟩ := opt_val k6; clear k6; have z6 := hb6.size
  have HL0 : Hid (Below w.heap.size w w6) := (by (repeat' (first | (with_reducible exact Below.refl _ _) | (with_reducible refine Below.alloc ?_ ?_ _) | (with_reducible refine Below.drew ?_) | (with_reducible refine Below.setCell ?_ ?_ _) | (with_reducible refine below_drewN ?_ _) | (refine Below.trans ?_ (Below.mono (by assumption) ?_)) | go_size)))
  have HC6 : Hid (∀ j, j < zs.length → w6.cell? ⟨b, off + j, none⟩ = some (.int .i64 (zs.getD j 0))) := fun j hj => by
    rw [below_cells hb6 _ _ (by omega)]; exact HC5.out j hj
  have HG6 : Hid (∀ j, j < zs.length → w6.cell? ⟨g, j, none⟩ = some (.int .i64 (zs.getD j 0))) := fun j hj => by
    rw [below_cells hb6 _ _ (by omega)]
    exact HCS5.out j _ (by rw [List.getElem?_map, List.getD_eq_getElem?_getD, List.getElem?_eq_getElem hj]; rfl)
  have zz : w.heap.size ≤ w6.heap.size := by omega
  clear hb0 hb1 hb2 hb3 hb4 hb5 hb6 HC HN HS HR HCS HCS2 HC5 HCS5 z0 z1 z2 z3 z4 z5 z6 hgb hgs hbw
  go_wp2
  go_loopw [20] (fun i wr => ∃ k : Nat, i = .int .i64 k ∧ k ≤ len ∧ ∃ nq, wr = w6.drewN nq) (fun i _ => len - (intOf i).toNat)
  case atStart => exact ⟨0, rfl, by omega, 0, rfl⟩
  case round =>
    obtain ⟨k, rfl, hk, nq, rfl⟩ := hrel
    by_cases hlt : k < len
    · have c1 := HC6.out k (by rw [HL.out]; exact hlt)
      have c2 := HG6.out k (by rw [HL.out]; exact hlt)
      generalize zs.getD k 0 = x at c1 c2
      go_wp2
      go_quiet (fail)
      go_wp2
      go_roundw
      case rel => exact ⟨k + 1, by go_num, by omega, _, rfl⟩
      case measure => simp [intOf]; omega
    · obtain rfl : k = len := by omega
      go_wp2_with (first | (go_at_call 15; (with_reducible refine Calls.mono (works_any _) ?_); rintro e w7 ⟨rfl, hb7⟩; have z7 := hb7.size; try simp only [World.size_alloc] at z7) | go_in)
      all_goals
        go_ret
        exact ⟨rfl, (below_drewN HL0.out _).trans (hb7.mono (by rw [drewN_size]; exact zz))⟩

end Go.Proofs.Ytmpgbflhhdhbpaa
