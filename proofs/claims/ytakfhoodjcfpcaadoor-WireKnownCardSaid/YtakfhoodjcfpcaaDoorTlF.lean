/- slices.Grow at no bytes; append of bytes that lie somewhere. -/
import Derived.Calls
import Derived.WalkKit
import Derived.WalkSpells
import Derived.WalkLawsBesides
import Derived.Handy
import Derived.Lib.Hide
import Derived.Deep.AppendLies
import Derived.Deep.LoopGhost
import Derived.Outline
import Derived.Laws.BitsAllLaws
import Derived.Laws.BitsLemmas
import Derived.Lib.AppendZeros
import Derived.Lib.AppendZerosOnto
import Derived.Maps.AppendAt
import Derived.Laws.Append
import Derived.Laws.AppendOwn
import Derived.Test.YtakfhoodjcfpcaaDoorRows
import Derived.Test.YtakfhoodjcfpcaaDoorTlA
import Derived.Test.YtakfhoodjcfpcaaDoorTlD
namespace Go.Proofs.YtakfhoodjcfpcaaDoor.T
set_option maxRecDepth 100000
open Go.RowKit

theorem Src.keep {w w' : World} {a : Option Addr} {l : List UInt8} (h : Src w a l) (hc : ∀ p v, w.cell? p = some v → (∃ b off, a = some ⟨b, off, none⟩ ∧ p.block = b) → w'.cell? p = some v) : Src w' a l := by
  rcases h with h | ⟨b, off, ha, hk⟩
  · exact .inl h
  · exact .inr ⟨b, off, ha, fun k c hkc => hc _ _ (hk k c hkc) ⟨b, off, ha, rfl⟩⟩
theorem Src.below {w w' : World} {a : Option Addr} {l : List UInt8} (h : Src w a l) (hb : Below w.heap.size w w') : Src w' a l := h.keep fun _ _ hv _ => cell_later hb hv
theorem Src.of_byt {w : World} {base : Nat} {a : Option Addr} {n c : Nat} {l : List UInt8} (h : Byt w base (.slice a n c) l) : Src w a l := by
  rcases h.2 with ⟨h0, hl⟩ | ⟨g, cap, cur, hv, hg, hh, hc, hm, hs, ht⟩
  · exact .inl (List.eq_nil_of_length_eq_zero hl)
  · cases hv
    refine .inr ⟨g, 0, rfl, fun k c hk => ?_⟩
    rw [Nat.zero_add, cell_of_row w g _ _ _ _ hh]
    have hkl : k < l.length := (List.getElem?_eq_some_iff.1 hk).1
    have h1 : (cur.toList.take (l.length * 1))[k]? = (l.map bv)[k]? := by rw [ht]
    rw [List.getElem?_take, if_pos (by omega), Array.getElem?_toList, List.getElem?_map, hk] at h1
    exact h1
theorem app_run (w : World) (base : Nat) (v : Value) (n : Nat) (xs : List Value) (hown : w.ownsRow base 5 1 v n xs) (a : Option Addr) (l : List UInt8) (c : Nat) (hs : Src w a l) (hn : n + l.length ≤ 140737488355328) (hbase : base ≤ w.heap.size) (ty : TypeId) :
    ∃ v' w', (Builtin.append_ #[33, 33] ty #[v, .slice a l.length c]).run Tryd.prog w = .ok v' w' ∧ w'.ownsRow base 5 1 v' (n + l.length) (xs ++ l.map bv) ∧ w.grownBy w' v.ownBlock ∧ (v'.ownBlock = v.ownBlock ∨ v'.ownBlock = some w.heap.size) := by
  obtain ⟨i0, hi0, hz0, hz1, hz2⟩ := info_parts Tryd.info5
  cases a with
  | none =>
    have hl : l = [] := by
      rcases hs with h | ⟨_, _, h, _⟩
      · exact h
      · cases h
    subst hl
    refine ⟨v, w, ?_, by simpa using hown, World.grownBy.refl w _, .inl rfl⟩
    rcases hown.2 with ⟨rfl, rfl⟩ | ⟨g, cap, cur, rfl, _, _, hnc, _⟩
    · simp [Builtin.append_, run_underlying Tryd.underlying33, sizeOf, typeInfo, hi0, Builtin.lenOf, Builtin.firstCells]
    · simp [Builtin.append_, run_underlying Tryd.underlying33, sizeOf, typeInfo, hi0, Builtin.lenOf, Builtin.firstCells, hnc, storeCells]
  | some ad =>
    have hcells : ∀ j u, (l.map bv)[j]? = some u → w.cell? (ad.add j) = some u := by
      intro j u hu
      rw [List.getElem?_map] at hu
      rcases hs with h | ⟨b, off, h, hk⟩
      · subst h; simp at hu
      · cases h
        cases hlj : l[j]? with
        | none => rw [hlj] at hu; cases hu
        | some d =>
          rw [hlj] at hu; cases hu
          rw [Addr.add_lit]; exact hk j d hlj
    obtain ⟨v', w', hrun, h2, h3, _, h5⟩ := run_append_own_at (P := Tryd.prog) w base 33 ty 5 i0 _ 1 1 Tryd.underlying33 hi0 hz0 hz1 hz2 rfl (by omega) v n xs hown ad l.length c (l.map bv) (by simp) hcells (by intro u hu; simp at hu; obtain ⟨d, _, rfl⟩ := hu; rfl) (by unfold maxLen; omega) (by omega) hbase
    exact ⟨v', w', hrun, h2, h3, h5⟩
theorem wpList_app {ops : Array Oper} {rest : List Oper} {o : Oper} {a : Act} {w : World} {Q : Exit → Act → World → Prop} (hgd : o.guard = none) (s x : Operand)
    (ho : o.op = .call { callee := .builtin .append, args := #[s, x], argTypes := #[33, 33] }) (base : Nat) (v : Value) (n : Nat) (xs : List Value) (hsv : a.eval s = v) (hown : w.ownsRow base 5 1 v n xs)
    (ad : Option Addr) (l : List UInt8) (c : Nat) (hx : a.eval x = .slice ad l.length c) (hs : Src w ad l) (hn : n + l.length ≤ 140737488355328) (hbase : base ≤ w.heap.size)
    (h : ∀ v' w', w'.ownsRow base 5 1 v' (n + l.length) (xs ++ l.map bv) → w.grownBy w' v.ownBlock → (v'.ownBlock = v.ownBlock ∨ v'.ownBlock = some w.heap.size) → wpList Tryd.prog ops Q rest (a.put o.dst v') w') : wpList Tryd.prog ops Q (o :: rest) a w :=
  wpList_plain hgd fun _ hK => by
    obtain ⟨v', w', hrun, h2, h3, h4⟩ := app_run w base v n xs hown ad l c hs hn hbase o.type
    unfold Oper.wp execOp
    simp only [ho, resolve, invoke, builtin, Sem.run_bind, Sem.run_pure, Result.andThen_ok, List.map_toArray, List.map_cons, List.map_nil, hsv, hx, hrun]
    exact hK _ _ (h v' w' h2 h3 h4)

/-- slices.Grow of nothing: nothing, with room -/
theorem grow_nil (n : Nat) (hn : n ≤ 1000000) (w : World) : Calls Tryd.prog 61 #[.slice none 0 0, .int .i64 n] w fun e w' => ∃ v, e = .returned v ∧ w'.ownsRow w.heap.size 5 1 v 0 [] ∧ Below w.heap.size w w' := by
  obtain ⟨i0, hi0, hz0, hz1, hz2⟩ := info_parts Tryd.info5
  by_cases h0 : n = 0
  · subst h0
    go_enter Tryd.func61, Tryd.ntmps61
    go_wp2
    go_ret
    exact ⟨_, rfl, World.ownsRow_nil _ _ _ _, Below.refl _ _⟩
  · have hrz : ∀ ty, (Builtin.append_ #[33, 3] ty #[.slice none 0 0, .int .i64 (n : Int)]).run Tryd.prog w = .ok (.slice (some ⟨w.heap.size, 0, none⟩) n (grownCap w n 0 5)) (w.drew.alloc (.cells (#[] ++ Builtin.zeroCells (Value.int .u8 0).cells n ++ Builtin.zeroCells (Value.int .u8 0).cells (grownCap w n 0 5 - n)) 5)) := fun ty => by
      have h := Lib.run_append_grow_zeros w 33 3 ty 5 i0 (.int .u8 0) .i64 .i64 Tryd.underlying33 Tryd.underlying3 hi0 hz0 none 0 0 [] (run_firstCells_none w.drew i0.size 0 0 0) n (by omega) (by omega) (by omega) (by omega)
        (by rw [hz2]; omega) (growslice_fits (by omega) (by rw [hz2]; omega))
      rw [Nat.zero_add] at h
      exact h
    have hge := grownCap_ge w n 0 5
    have hle := grownCap_le_maxLen w n 0 5 (by unfold maxLen; omega)
    generalize grownCap w n 0 5 = G at hrz hge hle
    obtain ⟨cur, hcur⟩ : ∃ cur, (#[] ++ Builtin.zeroCells (Value.int .u8 0).cells n ++ Builtin.zeroCells (Value.int .u8 0).cells (G - n)) = cur := ⟨_, rfl⟩
    rw [hcur] at hrz
    have hcs : cur.size = G := by
      rw [← hcur]
      simp [Builtin.zeroCells, Value.cells]
      omega
    have HCS := Lib.hid hcs
    clear hcur hcs
    unfold maxLen at hle
    go_enter Tryd.func61, Tryd.ntmps61
    go_wp2_with (at_builtin; refine Lib.wpList_append_run _ rfl _ _ _ _ rfl _ _ rfl rfl _ _ (hrz _) ?_)
    all_goals
      go_ret
      exact ⟨_, rfl, ⟨rfl, .inr ⟨w.heap.size, G, cur, rfl, Nat.le_refl _, heap_alloc_at _ _, Nat.zero_le _, by unfold maxLen; omega, by rw [HCS.out]; omega, rfl⟩⟩, (Below.refl _ _).drew.alloc (Nat.le_refl _) _⟩
end Go.Proofs.YtakfhoodjcfpcaaDoor.T
