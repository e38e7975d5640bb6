/- slices.Clone, slices.Concat of four. -/
import Derived.Calls
import Derived.WalkKit
import Derived.WalkSpells
import Derived.WalkLawsBesides
import Derived.Handy
import Derived.Lib.Hide
import Derived.Deep.AppendLies
import Derived.Deep.LoopGhost
import Derived.Outline
import Derived.Laws.BitsAllLaws
import Derived.Laws.BitsLemmas
import Derived.Lib.AppendZeros
import Derived.Lib.AppendZerosOnto
import Derived.Maps.AppendAt
import Derived.Laws.Append
import Derived.Laws.AppendOwn
import Derived.Test.YtakfhoodjcfpcaaDoorRows
import Derived.Test.YtakfhoodjcfpcaaDoorTlA
import Derived.Test.YtakfhoodjcfpcaaDoorTlB
import Derived.Test.YtakfhoodjcfpcaaDoorTlD
import Derived.Test.YtakfhoodjcfpcaaDoorTlF
namespace Go.Proofs.YtakfhoodjcfpcaaDoor.T
open Go.RowKit

theorem byt_of' {w : World} {base : Nat} {v : Value} {l : List UInt8} {n : Nat} {xs : List Value} (h : w.ownsRow base 5 1 v n xs) (hx : xs = l.map bv) : Byt w base v l := by
  have hn : n = l.length := by have := h.1; rw [hx] at this; simpa using this.symm
  subst hn hx; exact h
set_option maxRecDepth 100000 in
set_option maxHeartbeats 2000000 in
theorem clone_nil (c : Nat) (w : World) (hc : c = 0) : Calls Tryd.prog 52 #[.slice none 0 c] w (NewPost w []) := by
  subst hc
  have hq := fun (W : World) => Lib.run_eql_slice_nil (P := Tryd.prog) W
  go_enter Tryd.func52, Tryd.ntmps52
  go_wp2
  go_ret
  exact ⟨_, rfl, byt_nil _ _, Below.refl _ _⟩
set_option maxRecDepth 100000 in
set_option maxHeartbeats 2000000 in
theorem clone_some (ad : Addr) (cp : Nat) (l : List UInt8) (w : World) (hl : l.length ≤ 140737488355328) (hs : Src w (some ad) l) : Calls Tryd.prog 52 #[.slice (some ad) l.length cp] w (NewPost w l) := by
  have hq := fun (W : World) (n c : Nat) => Lib.run_eql_slice_nil (P := Tryd.prog) W 33 5 (some ad) n c 0 0 Tryd.underlying33
  have h0 : Hid (∀ o : Obj, Src (w.alloc o) (some ad) l) := fun o => hs.below ((Below.refl _ _).alloc (Nat.le_refl _) _)
  go_enter Tryd.func52, Tryd.ntmps52
  go_wp2_with (at_builtin; refine wpList_app rfl _ _ rfl w.heap.size (.slice (some ⟨w.heap.size, 0, none⟩) 0 0) 0 [] rfl ⟨rfl, .inr ⟨w.heap.size, 0, #[], rfl, Nat.le_refl _, heap_alloc_at _ _, Nat.le_refl _, by unfold maxLen; omega, rfl, rfl⟩⟩ (some ad) l cp rfl (h0.out _) (by omega) (by simp) ?_; intro v1 w1 ho1 hg1 ha1; have HO := Lib.hid ho1; have HG := Lib.hid hg1; clear ho1 hg1 ha1)
  go_ret
  refine ⟨_, rfl, byt_of' HO.out rfl, ?_⟩
  exact ((Below.refl _ _).alloc (Nat.le_refl _) _).grown HG.out (by simp) (fun k hk => by cases hk; exact Nat.le_refl _)
theorem clone_any (a : Option Addr) (cp : Nat) (l : List UInt8) (w : World) (hl : l.length ≤ 140737488355328) (hs : Src w a l) (hn : a = none → cp = 0) : Calls Tryd.prog 52 #[.slice a l.length cp] w (NewPost w l) := by
  cases a with
  | none =>
    have h0 : l = [] := by
      rcases hs with h | ⟨_, _, h, _⟩
      · exact h
      · cases h
    subst h0
    exact clone_nil cp w (hn rfl)
  | some ad =>
    exact clone_some ad cp l w hl hs
theorem grow_at (x : Int) (h0 : 0 ≤ x) (h1 : x ≤ 1000000) (w : World) : Calls Tryd.prog 61 #[.slice none 0 0, .int .i64 x] w fun e w' => ∃ v, e = .returned v ∧ w'.ownsRow w.heap.size 5 1 v 0 [] ∧ Below w.heap.size w w' := by
  obtain ⟨n, rfl⟩ := Int.eq_ofNat_of_zero_le h0
  exact grow_nil n (by omega) w
theorem Src.grown {w w' : World} {a : Option Addr} {l : List UInt8} {row : Option Nat} {B : Nat} (h : Src w a l) (hg : w.grownBy w' row) (hr : ∀ g, row = some g → B ≤ g) (hB : ∀ b off, a = some ⟨b, off, none⟩ → b < B) : Src w' a l :=
  h.keep fun p v hv ⟨b, off, ha, hp⟩ => by
    have hlt := World.block_lt_of_cell? w p hv
    rw [World.cell?_of_block (hg.block p.block hlt (fun e => by have h1 := hr _ e.symm; have h2 := hB b off ha; omega))]
    exact hv
set_option maxRecDepth 100000 in
set_option maxHeartbeats 4000000 in
theorem concat4 (g : Nat) (a0 a1 a2 a3 : Option Addr) (l0 l1 l2 l3 : List UInt8) (c0 c1 c2 c3 : Nat) (w : World) (hl : l0.length + l1.length + l2.length + l3.length ≤ 1000000)
    (h0 : w.cell? ⟨g, 0, none⟩ = some (.slice a0 l0.length c0)) (h1 : w.cell? ⟨g, 1, none⟩ = some (.slice a1 l1.length c1)) (h2 : w.cell? ⟨g, 2, none⟩ = some (.slice a2 l2.length c2)) (h3 : w.cell? ⟨g, 3, none⟩ = some (.slice a3 l3.length c3))
    (s0 : Src w a0 l0) (s1 : Src w a1 l1) (s2 : Src w a2 l2) (s3 : Src w a3 l3) :
    Calls Tryd.prog 47 #[.slice (some ⟨g, 0, none⟩) 4 4] w (NewPost w (l0 ++ l1 ++ l2 ++ l3)) := by
  have S0 := Lib.hid s0; have S1 := Lib.hid s1; have S2 := Lib.hid s2; have S3 := Lib.hid s3
  clear s0 s1 s2 s3
  have hg := World.block_lt_of_cell? w _ h0
  simp only at hg
  go_enter Tryd.func47, Tryd.ntmps47
  go_wp2
  refine wp_loop_rounds 5 ?_
  repeat any_goals (rw [rounds_succ]; go_wp2_with fail)
  refine Calls.mono (grow_at _ (by omega) (by omega) _) ?_
  rintro e w1 ⟨v0, rfl, ho, hb⟩
  have HO0 := Lib.hid ho; have HB0 := Lib.hid hb
  have k0 := cell_later hb h0; have k1 := cell_later hb h1; have k2 := cell_later hb h2; have k3 := cell_later hb h3
  clear ho hb
  obtain ⟨va, vc, rfl⟩ := own_slice HO0.out
  go_wp2_with fail
  refine wp_loop_rounds 5 ?_
  rw [rounds_succ]
  go_wp2_with (at_builtin; refine wpList_app rfl _ _ rfl w.heap.size _ _ _ rfl HO0.out a0 l0 c0 rfl (S0.out.below HB0.out) (by omega) HB0.out.size ?_; intro v1 w2 ho hg1 ha1; simp only [Nat.zero_add, List.nil_append] at ho; obtain ⟨va1, vc1, rfl⟩ := own_slice ho; have HB1 := Lib.hid (HB0.out.grown hg1 HB0.out.size (fun q hq => (HO0.out.lt q hq).1)); have HO1 := Lib.hid ho; have e1_1 := cell_later HB1.out h1; have e2_1 := cell_later HB1.out h2; have e3_1 := cell_later HB1.out h3; clear ho hg1 ha1)
  rw [rounds_succ]
  go_wp2_with (at_builtin; refine wpList_app rfl _ _ rfl w.heap.size _ _ _ rfl HO1.out a1 l1 c1 rfl (S1.out.below HB1.out) (by omega) HB1.out.size ?_; intro v2 w3 ho hg2 ha2; obtain ⟨va2, vc2, rfl⟩ := own_slice ho; have HB2 := Lib.hid (HB1.out.grown hg2 HB1.out.size (fun q hq => (HO1.out.lt q hq).1)); have HO2 := Lib.hid ho; have e2_2 := cell_later HB2.out h2; have e3_2 := cell_later HB2.out h3; clear ho hg2 ha2)
  rw [rounds_succ]
  go_wp2_with (at_builtin; refine wpList_app rfl _ _ rfl w.heap.size _ _ _ rfl HO2.out a2 l2 c2 rfl (S2.out.below HB2.out) (by omega) HB2.out.size ?_; intro v3 w4 ho hg3 ha3; obtain ⟨va3, vc3, rfl⟩ := own_slice ho; have HB3 := Lib.hid (HB2.out.grown hg3 HB2.out.size (fun q hq => (HO2.out.lt q hq).1)); have HO3 := Lib.hid ho; have e3_3 := cell_later HB3.out h3; clear ho hg3 ha3)
  rw [rounds_succ]
  go_wp2_with (at_builtin; refine wpList_app rfl _ _ rfl w.heap.size _ _ _ rfl HO3.out a3 l3 c3 rfl (S3.out.below HB3.out) (by omega) HB3.out.size ?_; intro v4 w5 ho hg4 ha4; obtain ⟨va4, vc4, rfl⟩ := own_slice ho; have HB4 := Lib.hid (HB3.out.grown hg4 HB3.out.size (fun q hq => (HO3.out.lt q hq).1)); have HO4 := Lib.hid ho; clear ho hg4 ha4)
  rw [rounds_succ]
  go_wp2
  go_ret
  exact ⟨_, rfl, byt_of' HO4.out (by simp), HB4.out⟩
end Go.Proofs.YtakfhoodjcfpcaaDoor.T
