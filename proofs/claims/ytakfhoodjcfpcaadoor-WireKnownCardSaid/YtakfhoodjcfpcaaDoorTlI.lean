/- tlv: Records. -/
import Derived.Calls
import Derived.WalkKit
import Derived.WalkSpells
import Derived.WalkLawsBesides
import Derived.Handy
import Derived.Lib.Hide
import Derived.Deep.AppendLies
import Derived.Deep.LoopGhost
import Derived.Outline
import Derived.Laws.BitsAllLaws
import Derived.Laws.BitsLemmas
import Derived.Lib.AppendZeros
import Derived.Lib.AppendZerosOnto
import Derived.Maps.AppendAt
import Derived.Laws.Append
import Derived.Laws.AppendOwn
import Derived.Deep.QuietTactic
import Derived.BigQuiet
import Derived.Deep.RegionHeld3
import Derived.Test.YtakfhoodjcfpcaaDoorRows
import Derived.Test.YtakfhoodjcfpcaaDoorPl
import Derived.Test.YtakfhoodjcfpcaaDoorTlA
import Derived.Test.YtakfhoodjcfpcaaDoorTlD
import Derived.Test.YtakfhoodjcfpcaaDoorTlF
import Derived.Test.YtakfhoodjcfpcaaDoorTlH
namespace Go.Proofs.YtakfhoodjcfpcaaDoor.T
open Go.RowKit Tlv

theorem Tryd.info43 : (Tryd.prog.info? 43).map (fun i => (i.zero, i.size, i.bytes)) = some (some (.agg #[.int .u64 0, .slice none 0 0]), 2, 32) := by kernel_rfl
def recCells : List Rec → List (Option Addr × Nat) → List Value
  | r :: L, x :: bs => .int .u64 (r.t : Int) :: .slice x.1 r.body.length x.2 :: recCells L bs
  | _, _ => []
theorem recCells_snoc : ∀ (L : List Rec) (bs : List (Option Addr × Nat)) (r : Rec) (x : Option Addr × Nat), bs.length = L.length → recCells (L ++ [r]) (bs ++ [x]) = recCells L bs ++ [.int .u64 (r.t : Int), .slice x.1 r.body.length x.2]
  | [], [], r, x, _ => rfl
  | [], _ :: _, r, x, h => by simp at h
  | _ :: _, [], r, x, h => by simp at h
  | p :: L, y :: bs, r, x, h => by
    have := recCells_snoc L bs r x (by simpa using h)
    simp [recCells, this]
theorem recCells_at : ∀ (L : List Rec) (bs : List (Option Addr × Nat)) (i : Nat) (r : Rec) (x : Option Addr × Nat), L[i]? = some r → bs[i]? = some x → (recCells L bs)[i * 2]? = some (.int .u64 (r.t : Int)) ∧ (recCells L bs)[i * 2 + 1]? = some (.slice x.1 r.body.length x.2)
  | [], _, i, r, x, h, _ => by simp at h
  | _ :: _, [], i, r, x, _, h => by simp at h
  | p :: L, y :: bs, 0, r, x, h, h' => by simp at h h'; subst h h'; exact ⟨rfl, rfl⟩
  | p :: L, y :: bs, i + 1, r, x, h, h' => by
    have := recCells_at L bs i r x (by simpa using h) (by simpa using h')
    rw [show (i + 1) * 2 = i * 2 + 1 + 1 by omega]
    simpa [recCells] using this
/-- records of the call's own -/
def OwnRecs (w : World) (base : Nat) (v : Value) (L : List Rec) : Prop :=
  ∃ bs : List (Option Addr × Nat), bs.length = L.length ∧ w.ownsRow base 43 2 v L.length (recCells L bs) ∧ ∀ (i : Nat) (r : Rec) (x : Option Addr × Nat), L[i]? = some r → bs[i]? = some x → Byt w base (.slice x.1 r.body.length x.2) r.body ∧ r.t < 18446744073709551616
theorem ownsRow_blocks {w w' : World} {base E size n : Nat} {v : Value} {xs : List Value} (h : w.ownsRow base E size v n xs) (hk : ∀ g, v.ownBlock = some g → w'.heap[g]? = w.heap[g]?) : w'.ownsRow base E size v n xs := by
  refine ⟨h.1, ?_⟩
  rcases h.2 with h0 | ⟨g, cap, cur, hv, hg, hh, hrest⟩
  · exact .inl h0
  · exact .inr ⟨g, cap, cur, hv, hg, by rw [hk g (by rw [hv]; rfl)]; exact hh, hrest⟩
theorem Byt.below {w w' : World} {base : Nat} {v : Value} {l : List UInt8} (h : Byt w base v l) (hb : Below w.heap.size w w') : Byt w' base v l := ownsRow_blocks h fun g hg => hb.block g (h.lt g hg).2
theorem OwnRecs.below {w w' : World} {base : Nat} {v : Value} {L : List Rec} (h : OwnRecs w base v L) (hb : Below w.heap.size w w') : OwnRecs w' base v L := by
  obtain ⟨bs, h1, h2, h3⟩ := h
  exact ⟨bs, h1, ownsRow_blocks h2 fun g hg => hb.block g (h2.lt g hg).2, fun i r x hi hx => ⟨(h3 i r x hi hx).1.below hb, (h3 i r x hi hx).2⟩⟩
theorem ownRecs_nil (w : World) (base : Nat) : OwnRecs w base (.slice none 0 0) [] := ⟨[], rfl, World.ownsRow_nil _ _ _ _, fun i r x h => by simp at h⟩
/-- one more -/
theorem OwnRecs.snoc {w1 w2 : World} {base g cap m nb c : Nat} {a0 : Option Addr} {c0 : Nat} {L : List Rec} {t : Nat} {body : List UInt8} {q : Option Addr} {o : Obj} (hO : OwnRecs w1 base (.slice a0 m c0) L) (hB : Byt w1 base (.slice q nb c) body) (hnb : body.length = nb) (ht : t < 18446744073709551616)
    (hg : (w1.alloc o).grownBy w2 (Value.slice a0 m c0).ownBlock) (hown : w2.ownsRow base 43 2 (.slice (some ⟨g, 0, none⟩) (L.length + 1) cap) (L.length + 1) (recCells L hO.choose ++ [.int .u64 (t : Int), .slice q nb c])) :
    OwnRecs w2 base (.slice (some ⟨g, 0, none⟩) (L.length + 1) cap) (L ++ [⟨t, body⟩]) := by
  subst hnb
  obtain ⟨h1, h2, h3⟩ := hO.choose_spec
  generalize hO.choose = bs at h1 h2 h3 hown
  -- the rows of bytes lie in other blocks than the row of records
  have keep : ∀ (v : Value) (l : List UInt8), Byt w1 base v l → Byt w2 base v l := fun v l h => by
    refine ownsRow_blocks h fun k hk => ?_
    have hk1 := (h.lt k hk).2
    have hne : some k ≠ (Value.slice a0 m c0).ownBlock := fun e => by
      rcases h.2 with ⟨hv, _⟩ | ⟨g1, _, cur1, hv, _, hh1, _⟩
      · rw [hv] at hk; cases hk
      · rcases h2.2 with ⟨hv2, _⟩ | ⟨g2, _, cur2, hv2, _, hh2, _⟩
        · rw [hv2] at e; cases e
        · rw [hv2] at e; rw [hv] at hk
          simp only [Value.ownBlock, Option.some.injEq] at e hk
          rw [hk, e] at hh1; rw [hh1] at hh2
          injection hh2 with hh2; injection hh2 with _ hh2; revert hh2; decide
    exact (hg.block k (by simp; omega) hne).trans ((below_new w1 o).block k hk1)
  refine ⟨bs ++ [(q, c)], by simp [h1], ?_, ?_⟩
  · rw [recCells_snoc L bs ⟨t, body⟩ (q, c) h1, List.length_append, List.length_singleton]
    exact hown
  · intro i r x hi hx
    rcases Nat.lt_or_ge i L.length with hlt | hge
    · rw [List.getElem?_append_left hlt] at hi
      rw [List.getElem?_append_left (by omega)] at hx
      exact ⟨keep _ _ (h3 i r x hi hx).1, (h3 i r x hi hx).2⟩
    · rw [List.getElem?_append_right hge] at hi
      rw [List.getElem?_append_right (by omega)] at hx
      cases hk : i - L.length with
      | zero =>
        rw [hk] at hi; rw [h1, hk] at hx
        simp at hi hx
        subst hi hx
        exact ⟨keep _ _ hB, ht⟩
      | succ k => rw [hk] at hi; simp at hi
theorem Src.drop {w : World} {b off k cp : Nat} {l : List UInt8} (h : Src w (some ⟨b, off, none⟩) l) (hl : l.length ≤ cp) : Src w (if cp = k then some ⟨b, off, none⟩ else some ⟨b, off + k, none⟩) (l.drop k) := by
  by_cases hk : cp = k
  · rw [if_pos hk, List.drop_eq_nil_of_le (by omega)]; exact .inl rfl
  · rw [if_neg hk]
    rcases h with h | ⟨b', off', e, hc⟩
    · subst h; simp [Src]
    · cases e
      refine .inr ⟨b, off + k, rfl, fun j c hj => ?_⟩
      rw [List.getElem?_drop] at hj
      rw [show off + k + j = off + (k + j) by omega]
      exact hc _ _ hj
theorem Src.take {w : World} {a : Option Addr} {l : List UInt8} (h : Src w a l) (k : Nat) : Src w a (l.take k) := by
  rcases h with h | ⟨b, off, e, hc⟩
  · subst h; exact .inl (by simp)
  · refine .inr ⟨b, off, e, fun j c hj => hc j c ?_⟩
    rw [List.getElem?_take] at hj
    split at hj
    · exact hj
    · cases hj
def RecordsPost (b : List UInt8) (w : World) (e : Ending) (w' : World) : Prop := ∃ v, e = .returned (.tuple #[v, .int .i64 ((recordsN b).2 : Int)]) ∧ OwnRecs w' w.heap.size v (recordsN b).1 ∧ Below w.heap.size w w'
theorem records_err {b : List UInt8} {w w' : World} {x : Int} (k : Nat) (h : recordsN b = ([], k)) (hx : x = (k : Int)) (hb : Below w.heap.size w w') : RecordsPost b w (.returned (.tuple #[.slice none 0 0, .int .i64 x])) w' := by
  refine ⟨.slice none 0 0, ?_, ?_, hb⟩
  · rw [h, hx]
  · rw [h]; exact ownRecs_nil _ _
theorem get_size (l : List UInt8) (h : (getN l).2.2 = 0) : 1 ≤ (getN l).2.1 ∧ (getN l).2.1 ≤ l.length ∧ (getN l).1 < 18446744073709551616 := by
  obtain ⟨h1, h2, h3, _⟩ := get_ok l (getN l).1 (getN l).2.1 (by rw [← h])
  have := putN_pos (getN l).1
  omega
end Go.Proofs.YtakfhoodjcfpcaaDoor.T
