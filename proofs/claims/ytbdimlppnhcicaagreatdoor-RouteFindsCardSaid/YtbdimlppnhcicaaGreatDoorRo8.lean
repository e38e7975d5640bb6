/- route: what a channel gives -/
import Derived.Deep.RegionHeld3
import Derived.StillTailTactics
import Derived.Lib.ParseIntB
import Derived.Lib.Bytealg
import Derived.Lib.ItoaNum
import Derived.Lib.ParseIntBCases
import Derived.Shelf.Strings.Builder1
import Derived.Shelf.Small.Bits
import Derived.Shelf.Small.Strs
import Derived.Shelf.Small.Wraps
import Derived.Shelf.Strings.BuilderF
import Derived.Shelf.Strings.BuilderK
import Derived.Shelf.Strconv.Itoa0
import Derived.Shelf.Strconv.Itoa1
import Derived.Shelf.LaysM
import Derived.Shelf.Strconv.Itoa2
import Derived.Shelf.Strconv.Itoa3
import Derived.Shelf.Strconv.Itoa4
import Derived.Shelf.Strconv.ParseIntEmpty
import Derived.Shelf.Strconv.Clone
import Derived.Shelf.Strconv.SyntaxError
import Derived.Shelf.LaysC
import Derived.Shelf.Strconv.ToError
import Derived.Shelf.Strconv.Lower
import Derived.Shelf.Strconv.ParseUint10
import Derived.Shelf.Strconv.ParseUint10Empty
import Derived.Shelf.Strconv.ParseUint10Any
import Derived.Shelf.Strconv.ParseInt10
import Derived.Shelf.Strconv.RangeError
import Derived.Shelf.Strconv.ToErrorRange
import Derived.Shelf.Strconv.ParseUintEmpty
import Derived.Shelf.Strconv.ParseUint10b64
import Derived.Shelf.Strconv.ParseUint10b32
import Derived.Shelf.Strconv.ParseUint10b16
import Derived.Shelf.Strconv.ParseUint10b8
import Derived.Shelf.Strconv.ParseUint10At
import Derived.Shelf.Strconv.ParseInt10At64
import Derived.Shelf.Strconv.ParseInt10At32
import Derived.Shelf.Strconv.ParseInt10At16
import Derived.Shelf.Strconv.ParseInt10At8
import Derived.Shelf.Strconv.ParseInt10All
import Derived.Shelf.Strconv.ParseIntPublic10
import Derived.Shelf.Strconv.ErrVarParseInt
import Derived.Shelf.Strings.Search1
import Derived.Shelf.Bits.Mul64
import Derived.Shelf.Strings.BuilderCap
import Derived.Ground.Names2Prog
import Derived.Shelf.Slices.Clone
import Derived.Shelf.Slices.SearchI
import Derived.Ground.SlgnProg
import Derived.Shelf.SlicesE.Clone
import Derived.WalkKit
import Derived.WalkSpells
import Derived.WalkLawsBesides
import Derived.Handy
import Derived.Lib.Hide
import Derived.Deep.QuietTactic
import Derived.BigQuiet
import Derived.Lib.Strings
import Derived.Lib.IndexBytes
import Derived.BigRegion
import Derived.Deep.RegionLaw
import Derived.Deep.AppendLies
import Derived.Deep.LoopGhost
import Derived.Deep.Onto
import Derived.Deep.WholeRow
import Derived.Deep.CutRange
import Derived.Laws.CopyOwn
import Derived.Lib.ItoaLen
import Derived.Lib.AppendIntMem
import Derived.Deep.CutBlock
import Derived.Deep.MidRow
import Derived.Deep.RegionHeld
import Derived.Outline
import Derived.Laws.Tables
import Derived.Laws.MakeOwn
import Derived.Laws.OwnMore
import Derived.WalkMore
import Derived.MapKept
import Derived.Carry
import Derived.Test.YtbdimlppnhcicaaGreatDoorRows
import Derived.Test.YtbdimlppnhcicaaGreatDoorProg
import Derived.Test.YtbdimlppnhcicaaGreatDoorNu
import Derived.Test.YtbdimlppnhcicaaGreatDoorTa
import Derived.Test.YtbdimlppnhcicaaGreatDoorRg
import Derived.Test.YtbdimlppnhcicaaGreatDoorBa
import Derived.Test.YtbdimlppnhcicaaGreatDoorVa
import Derived.Test.YtbdimlppnhcicaaGreatDoorWg
import Derived.Test.YtbdimlppnhcicaaGreatDoorSo
import Derived.Test.YtbdimlppnhcicaaGreatDoorOnA
import Derived.Test.YtbdimlppnhcicaaGreatDoorOb
import Derived.Test.YtbdimlppnhcicaaGreatDoorOe
import Derived.Test.YtbdimlppnhcicaaGreatDoorMny
import Derived.Test.YtbdimlppnhcicaaGreatDoorRo1
import Derived.Test.YtbdimlppnhcicaaGreatDoorOf
import Derived.Test.YtbdimlppnhcicaaGreatDoorOh
import Derived.Test.YtbdimlppnhcicaaGreatDoorOj
import Derived.Test.YtbdimlppnhcicaaGreatDoorRo2
import Derived.Test.YtbdimlppnhcicaaGreatDoorRo3
import Derived.Test.YtbdimlppnhcicaaGreatDoorRo4
import Derived.Test.YtbdimlppnhcicaaGreatDoorRo5
import Derived.Test.YtbdimlppnhcicaaGreatDoorRo7
import Derived.Test.YtbdimlppnhcicaaGreatDoorRo6
namespace Go.Proofs.YtbdimlppnhcicaaGreatDoor
set_option linter.unusedVariables false
open Go.RowKit Rte
/-! route: what a channel gives, as the document has it -/
def GivesPost (o : Option En) (u : ByteArray) (w : World) (e : Ending) (w' : World) : Prop := Below w.heap.size w w' ∧ match o with
  | none => e = .returned (.tuple #[.agg #[.string ⟨#[]⟩, .int .i64 0, .int .i64 0, .slice none 0 0], .bool false])
  | some x => ∃ oo c, e = .returned (.tuple #[.agg #[.string u, .int .i64 x.amt, .int .i64 x.exp, .slice oo x.hops.length c], .bool true]) ∧ RowsAt 4 hpC oo x.hops w' ∧ NewA w.heap.size oo
structure GvS (w : World) (k : Nat) (ex nx : Array Value) (pq : Nat) (px : Array Value) (W : World) : Prop where
  bel : Below w.heap.size w W
  e : W.heap[k]? = some (.cells ex 51 (0, 0))
  n : W.heap[k + 1]? = some (.cells nx 151 (0, 0))
  r : W.heap[k + 2]? = some (.cells #[.string ⟨#[]⟩, .int .i64 0, .int .i64 0, .slice none 0 0] 151 (0, 0))
  p : W.heap[pq]? = some (.cells px 53 (0, 0))
theorem GvS.next {w : World} {k : Nat} {ex nx : Array Value} {pq : Nat} {px : Array Value} {W W' : World} (h : GvS w k ex nx pq px W) (hb : Below W.heap.size W W') : GvS w k ex nx pq px W' :=
  ⟨btr h.bel hb, (hb.block _ (lt_of_heap h.e)).trans h.e, (hb.block _ (lt_of_heap h.n)).trans h.n, (hb.block _ (lt_of_heap h.r)).trans h.r, (hb.block _ (lt_of_heap h.p)).trans h.p⟩
theorem has_take {hs : List Hp} {i : Nat} {h : Hp} (u : ByteArray) (hh : hs[i]? = some h) : hasN (hs.take (i + 1)) u = (hasN (hs.take i) u || decide (h.node = u)) := any_take _ hh
theorem rows_fr {α : Type} {n : Nat} {cells : α → List Value} {o : Option Addr} {l : List α} {W W' : World} {g : Nat} (h : RowsAt n cells o l W) (hn : ∀ b off, o = some ⟨b, off, none⟩ → l ≠ [] → b ≠ g) (hF : Fr (fun i => i = g) W W') : RowsAt n cells o l W' := by
  rcases h with h | ⟨b, off, h1, h2⟩
  · exact .inl h
  · refine .inr ⟨b, off, h1, fun k x hx j v hv => ?_⟩
    have hc := h2 k x hx j v hv
    have hlt := World.block_lt_of_cell? W _ hc
    rw [World.cell?_of_block (hF.block b hlt (hn b off h1 (fun e => by rw [e] at hx; simp at hx)))]
    exact hc
theorem hops_ne {o : Option Addr} {h : Hp} {l : List Hp} {W : World} {g : Nat} {a : ByteArray} {b c : Int} {v : Value} {t : TypeId} (hr : RowsAt 4 hpC o (h :: l) W) (hg : W.heap[g]? = some (.cells #[.string a, .int .i64 b, .int .i64 c, .slice none 0 0] t (0, 0))) : ∀ k off, o = some ⟨k, off, none⟩ → k ≠ g := by
  rintro k off rfl rfl
  obtain ⟨k', off', e, hc⟩ := rows_at hr (i := 0) (x := h) rfl
  cases e
  have h1 := hc 1 _ rfl
  rw [cell_of_row _ _ _ _ _ _ hg] at h1
  have h2 : off + 0 * 4 + 1 = (off + 0) + 1 := by omega
  rw [h2] at h1
  rcases (show off + 0 = 0 ∨ off + 0 = 1 ∨ off + 0 = 2 ∨ 3 ≤ off + 0 by omega) with q | q | q | q
  · rw [q] at h1; cases h1
  · rw [q] at h1; cases h1
  · rw [q] at h1; cases h1
  · rw [Array.getElem?_eq_none (by simp; omega)] at h1; cases h1
theorem row4_set {W : World} {k : Nat} {t : TypeId} {a0 a1 a2 a3 b0 b1 b2 b3 : Value} (h : W.heap[k]? = some (.cells #[a0, a1, a2, a3] t (0, 0))) :
    ((((W.setCell ⟨k, 0, none⟩ b0).setCell ⟨k, 1, none⟩ b1).setCell ⟨k, 2, none⟩ b2).setCell ⟨k, 3, none⟩ b3).heap[k]? = some (.cells #[b0, b1, b2, b3] t (0, 0)) := by
  have h0 : (W.setCell ⟨k, 0, none⟩ b0).heap[k]? = some (.cells #[b0, a1, a2, a3] t (0, 0)) := by rw [heap_setCell_same _ _ _ _ _ _ h]; rfl
  have h1 : ((W.setCell ⟨k, 0, none⟩ b0).setCell ⟨k, 1, none⟩ b1).heap[k]? = some (.cells #[b0, b1, a2, a3] t (0, 0)) := by rw [heap_setCell_same _ _ _ _ _ _ h0]; rfl
  have h2 : (((W.setCell ⟨k, 0, none⟩ b0).setCell ⟨k, 1, none⟩ b1).setCell ⟨k, 2, none⟩ b2).heap[k]? = some (.cells #[b0, b1, b2, a3] t (0, 0)) := by rw [heap_setCell_same _ _ _ _ _ _ h1]; rfl
  rw [heap_setCell_same _ _ _ _ _ _ h2]; rfl
theorem fr4_set {W : World} {k : Nat} {b0 b1 b2 b3 : Value} : Fr (fun i => i = k) W ((((W.setCell ⟨k, 0, none⟩ b0).setCell ⟨k, 1, none⟩ b1).setCell ⟨k, 2, none⟩ b2).setCell ⟨k, 3, none⟩ b3) :=
  (((((Fr.refl (fun i => i = k) W).set k 0 b0 rfl).set k 1 b1 rfl).set k 2 b2 rfl).set k 3 b3 rfl)
theorem gv_cells {w : World} {k pq : Nat} {a0 a1 a2 a3 b0 b1 b2 b3 c0 c1 c2 c3 c4 c5 c6 c7 c8 : Value} {W : World} (h : GvS w k #[a0, a1, a2, a3] #[b0, b1, b2, b3] pq #[c0, c1, c2, c3, c4, c5, c6, c7, c8] W) :
    W.cell? ⟨k + 1, 0, none⟩ = some b0 ∧ W.cell? ⟨k + 1, 1, none⟩ = some b1 ∧ W.cell? ⟨k + 1, 2, none⟩ = some b2 ∧ W.cell? ⟨k + 1, 3, none⟩ = some b3 ∧ W.cell? ⟨pq, 5, none⟩ = some c5 ∧ W.cell? ⟨k, 0, none⟩ = some a0 := by
  obtain ⟨b0, b1, b2, b3, _⟩ := cells4 h.n
  exact ⟨b0, b1, b2, b3, (cells9 h.p).2.2.2.2.2.1, (cells4 h.e).1⟩
theorem gv_set {k pq : Nat} {b0 b1 b2 b3 c5 a0 v0 v1 v2 v3 : Value} {W : World} (hp : k + 2 ≠ pq) (h : W.cell? ⟨k + 1, 0, none⟩ = some b0 ∧ W.cell? ⟨k + 1, 1, none⟩ = some b1 ∧ W.cell? ⟨k + 1, 2, none⟩ = some b2 ∧ W.cell? ⟨k + 1, 3, none⟩ = some b3 ∧ W.cell? ⟨pq, 5, none⟩ = some c5 ∧ W.cell? ⟨k, 0, none⟩ = some a0) :
    ((((W.setCell ⟨k + 2, 0, none⟩ v0).setCell ⟨k + 2, 1, none⟩ v1).setCell ⟨k + 2, 2, none⟩ v2).setCell ⟨k + 2, 3, none⟩ v3).cell? ⟨k + 1, 0, none⟩ = some b0 ∧ ((((W.setCell ⟨k + 2, 0, none⟩ v0).setCell ⟨k + 2, 1, none⟩ v1).setCell ⟨k + 2, 2, none⟩ v2).setCell ⟨k + 2, 3, none⟩ v3).cell? ⟨k + 1, 1, none⟩ = some b1 ∧ ((((W.setCell ⟨k + 2, 0, none⟩ v0).setCell ⟨k + 2, 1, none⟩ v1).setCell ⟨k + 2, 2, none⟩ v2).setCell ⟨k + 2, 3, none⟩ v3).cell? ⟨k + 1, 2, none⟩ = some b2 ∧ ((((W.setCell ⟨k + 2, 0, none⟩ v0).setCell ⟨k + 2, 1, none⟩ v1).setCell ⟨k + 2, 2, none⟩ v2).setCell ⟨k + 2, 3, none⟩ v3).cell? ⟨k + 1, 3, none⟩ = some b3 ∧ ((((W.setCell ⟨k + 2, 0, none⟩ v0).setCell ⟨k + 2, 1, none⟩ v1).setCell ⟨k + 2, 2, none⟩ v2).setCell ⟨k + 2, 3, none⟩ v3).cell? ⟨pq, 5, none⟩ = some c5 ∧ ((((W.setCell ⟨k + 2, 0, none⟩ v0).setCell ⟨k + 2, 1, none⟩ v1).setCell ⟨k + 2, 2, none⟩ v2).setCell ⟨k + 2, 3, none⟩ v3).cell? ⟨k, 0, none⟩ = some a0 := by
  have hF := fr4_set (W := W) (k := k + 2) (b0 := v0) (b1 := v1) (b2 := v2) (b3 := v3)
  generalize ((((W.setCell ⟨k + 2, 0, none⟩ v0).setCell ⟨k + 2, 1, none⟩ v1).setCell ⟨k + 2, 2, none⟩ v2).setCell ⟨k + 2, 3, none⟩ v3) = W' at hF ⊢
  have hc : ∀ (b off : Nat) (v : Value), b ≠ k + 2 → W.cell? ⟨b, off, none⟩ = some v → W'.cell? ⟨b, off, none⟩ = some v := fun b off v hb h => by
    rw [World.cell?_of_block (hF.block b (World.block_lt_of_cell? W _ h) hb)]; exact h
  exact ⟨hc _ _ _ (by omega) h.1, hc _ _ _ (by omega) h.2.1, hc _ _ _ (by omega) h.2.2.1, hc _ _ _ (by omega) h.2.2.2.1, hc _ _ _ hp.symm h.2.2.2.2.1, hc _ _ _ (by omega) h.2.2.2.2.2⟩
set_option maxRecDepth 100000 in
set_option maxHeartbeats 16000000 in
theorem gives_any (ch ea eb : ByteArray) (cap : Int) (op : Option Addr) (P : List Plc) (cp : Nat) (u : ByteArray) (t : Nd) (w : World) (hP : RowsAt 9 plcC op P w) (hpl : ∀ p ∈ P, PlcOk p) (hn : P.length ≤ 1000) (ht : NdAt w t) (hok : EnOk t.e) (hc0 : 0 ≤ cap) (hc1 : cap ≤ 2100000000000000) :
    Calls Tryz.prog 84 #[.agg #[.string ch, .string ea, .string eb, .int .i64 cap], .slice op P.length cp, .string u, ndV t] w (GivesPost (givesW P ⟨ch, cap, u, t.node⟩ t.e) u w) := by
  obtain ⟨nd, ⟨va, vx, hs⟩, ho, hc⟩ := t
  unfold NdAt at ht
  dsimp only at ht hok
  show Calls Tryz.prog 84 #[.agg #[.string ch, .string ea, .string eb, .int .i64 cap], .slice op P.length cp, .string u, .agg #[.string nd, .int .i64 va, .int .i64 vx, .slice ho hs.length hc]] w (GivesPost (givesW P ⟨ch, cap, u, nd⟩ ⟨va, vx, hs⟩) u w)
  obtain ⟨out, hout⟩ : ∃ o, givesW P ⟨ch, cap, u, nd⟩ ⟨va, vx, hs⟩ = o := ⟨_, rfl⟩
  rw [hout]
  have HO := Lib.hid hout
  have HT := Lib.hid ht
  have HOK := Lib.hid hok
  obtain ⟨p, pok, hpp⟩ : ∃ p b, polR P ch u = (p, b) := ⟨_, _, rfl⟩
  have HPP := Lib.hid hpp
  have HPOL := Lib.hid (fun (W : World) (h : Below w.heap.size w W) => policy_any op P cp ch u W (hP.below h) hn)
  rw [hpp] at HPOL
  have HPL := Lib.hid hpl
  unfold plcV at HPOL
  dsimp only at HPOL
  obtain ⟨pc, pf, ps, pb, pr, pd, pmn, pmx, po⟩ := p
  obtain ⟨k, hk⟩ : ∃ k, w.heap.size = k := ⟨_, rfl⟩
  have HK := Lib.hid hk
  have hb3 : Below w.heap.size w (((w.alloc (.cells #[.string ch, .string ea, .string eb, .int .i64 cap] 51)).alloc (.cells #[.string nd, .int .i64 va, .int .i64 vx, .slice ho hs.length hc] 151)).alloc (.cells #[.string ⟨#[]⟩, .int .i64 0, .int .i64 0, .slice none 0 0] 151)) := (((Below.refl _ _).alloc (Nat.le_refl _) _).alloc (by simp) _).alloc (by simp; omega) _
  have HB3 := Lib.hid hb3
  have hE3 : (((w.alloc (.cells #[.string ch, .string ea, .string eb, .int .i64 cap] 51)).alloc (.cells #[.string nd, .int .i64 va, .int .i64 vx, .slice ho hs.length hc] 151)).alloc (.cells #[.string ⟨#[]⟩, .int .i64 0, .int .i64 0, .slice none 0 0] 151)).heap[k]? = some (.cells #[.string ch, .string ea, .string eb, .int .i64 cap] 51 (0, 0)) := by
    rw [← hk]; exact (heap_alloc_old _ _ (by simp; omega)).trans ((heap_alloc_old _ _ (by simp)).trans (heap_alloc_at w _))
  have hN3 : (((w.alloc (.cells #[.string ch, .string ea, .string eb, .int .i64 cap] 51)).alloc (.cells #[.string nd, .int .i64 va, .int .i64 vx, .slice ho hs.length hc] 151)).alloc (.cells #[.string ⟨#[]⟩, .int .i64 0, .int .i64 0, .slice none 0 0] 151)).heap[k + 1]? = some (.cells #[.string nd, .int .i64 va, .int .i64 vx, .slice ho hs.length hc] 151 (0, 0)) := by
    rw [← hk]
    refine (heap_alloc_old _ _ (by simp)).trans ?_
    have := heap_alloc_at (w.alloc (.cells #[.string ch, .string ea, .string eb, .int .i64 cap] 51)) (.cells #[.string nd, .int .i64 va, .int .i64 vx, .slice ho hs.length hc] 151)
    simpa using this
  have hR3 : (((w.alloc (.cells #[.string ch, .string ea, .string eb, .int .i64 cap] 51)).alloc (.cells #[.string nd, .int .i64 va, .int .i64 vx, .slice ho hs.length hc] 151)).alloc (.cells #[.string ⟨#[]⟩, .int .i64 0, .int .i64 0, .slice none 0 0] 151)).heap[k + 2]? = some (.cells #[.string ⟨#[]⟩, .int .i64 0, .int .i64 0, .slice none 0 0] 151 (0, 0)) := by
    rw [← hk]
    have := heap_alloc_at ((w.alloc (.cells #[.string ch, .string ea, .string eb, .int .i64 cap] 51)).alloc (.cells #[.string nd, .int .i64 va, .int .i64 vx, .slice ho hs.length hc] 151)) (.cells #[.string ⟨#[]⟩, .int .i64 0, .int .i64 0, .slice none 0 0] 151)
    simpa using this
  have HE3 := Lib.hid hE3; have HN3 := Lib.hid hN3; have HR3 := Lib.hid hR3
  have HGS : Hid (∀ w4, Below (((w.alloc (.cells #[.string ch, .string ea, .string eb, .int .i64 cap] 51)).alloc (.cells #[.string nd, .int .i64 va, .int .i64 vx, .slice ho hs.length hc] 151)).alloc (.cells #[.string ⟨#[]⟩, .int .i64 0, .int .i64 0, .slice none 0 0] 151)).heap.size (((w.alloc (.cells #[.string ch, .string ea, .string eb, .int .i64 cap] 51)).alloc (.cells #[.string nd, .int .i64 va, .int .i64 vx, .slice ho hs.length hc] 151)).alloc (.cells #[.string ⟨#[]⟩, .int .i64 0, .int .i64 0, .slice none 0 0] 151)) w4 → GvS w k #[.string ch, .string ea, .string eb, .int .i64 cap] #[.string nd, .int .i64 va, .int .i64 vx, .slice ho hs.length hc] w4.heap.size #[.string pc, .string pf, .int .i64 ps, .int .i64 pb, .int .i64 pr, .int .i64 pd, .int .i64 pmn, .int .i64 pmx, .bool po] (w4.alloc (.cells #[.string pc, .string pf, .int .i64 ps, .int .i64 pb, .int .i64 pr, .int .i64 pd, .int .i64 pmn, .int .i64 pmx, .bool po] 53))) := fun w4 h => by
    have h5 := below_new' w4 (.cells #[.string pc, .string pf, .int .i64 ps, .int .i64 pb, .int .i64 pr, .int .i64 pd, .int .i64 pmn, .int .i64 pmx, .bool po] 53)
    exact ⟨btr (btr HB3.out h) h5, (h5.block _ (lt_of_heap ((h.block _ (lt_of_heap HE3.out)).trans HE3.out))).trans ((h.block _ (lt_of_heap HE3.out)).trans HE3.out), (h5.block _ (lt_of_heap ((h.block _ (lt_of_heap HN3.out)).trans HN3.out))).trans ((h.block _ (lt_of_heap HN3.out)).trans HN3.out), (h5.block _ (lt_of_heap ((h.block _ (lt_of_heap HR3.out)).trans HR3.out))).trans ((h.block _ (lt_of_heap HR3.out)).trans HR3.out), heap_alloc_at _ _⟩
  clear hout ht hok hpp hP hpl hn hb3 hE3 hN3 hR3
  go_enter Tryz.func84, Tryz.ntmps84
  go_wp2_with ((go_at_call 142; (with_reducible refine Calls.mono (HPOL.out _ HB3.out) ?_); rintro e w4 ⟨rfl, hb4⟩; have G4 := Lib.hid (HGS.out _ hb4); obtain ⟨n0, n1, n2, n3, nl⟩ := cells4 G4.out.n; clear hb4))
  clear n0 n1 n2 n3 nl HGS HE3 HN3 HR3 HB3 HPOL hk
  generalize (w4.alloc (.cells #[.string pc, .string pf, .int .i64 ps, .int .i64 pb, .int .i64 pr, .int .i64 pd, .int .i64 pmn, .int .i64 pmx, .bool po] 53)) = w5 at G4 ⊢
  generalize w4.heap.size = pq at G4 ⊢
  obtain ⟨n0, n1, n2, n3, nl⟩ := cells4 G4.out.n
  have HSL : Hid (hs.length ≤ 100) := HOK.out.few
  go_loopw [11, 12] (fun kv iv wr => ∃ i : Nat, i ≤ hs.length ∧ iv = .int .i64 i ∧ kv = .bool (pok && !hasN (hs.take i) u) ∧ wr = w5) (fun _ iv _ => hs.length - (intOf iv).toNat)
  case atStart => exact ⟨0, Nat.zero_le _, rfl, by simp [hasN], rfl⟩
  case round =>
    obtain ⟨i, hi, rfl, rfl, rfl⟩ := hrel
    have hsl := HSL.out
    by_cases hlt : i < hs.length
    · obtain ⟨h, hh⟩ : ∃ h, hs[i]? = some h := ⟨_, List.getElem?_eq_getElem hlt⟩
      obtain ⟨hb, ho', rfl, hcc⟩ := rows_at HT.out hh
      have z1 : wr.cell? ⟨hb, ho' + i * 4 + 1, none⟩ = some (.string h.node) := cell_later' G4.out.bel (hcc 1 _ rfl)
      have hii : (i : Int) < (hs.length : Int) := by omega
      have hii2 : (hs.length : Int) ≤ 100 := by omega
      have hht := has_take u hh
      have HHT := Lib.hid hht
      clear hcc hht hh hi
      cases hb0 : (pok && !hasN (hs.take i) u) with
      | false =>
        have HNX : Hid ((pok && !hasN (hs.take (i + 1)) u) = false) := by
          show _ = _
          rw [HHT.out]
          cases pok with
          | false => rfl
          | true =>
            have : hasN (hs.take i) u = true := by simpa using hb0
            rw [this]; rfl
        clear hb0
        go_wp2_with fail
        go_roundw
        case rel => exact ⟨i + 1, hlt, by rw [Int.natCast_succ], by rw [HNX.out], trivial⟩
        case measure => simp only [intOf]; omega
      | true =>
        have hb1 : pok = true ∧ hasN (hs.take i) u = false := by simpa using hb0
        by_cases hu : h.node = u
        · have q1 : h.node.toList = u.toList := by rw [hu]
          have HNX : Hid ((pok && !hasN (hs.take (i + 1)) u) = false) := by
            show _ = _
            rw [HHT.out, decide_eq_true hu]; simp
          clear hb0 hb1 hu
          go_wp2_with fail
          go_roundw
          case rel => exact ⟨i + 1, hlt, by rw [Int.natCast_succ], by rw [HNX.out], trivial⟩
          case measure => simp only [intOf]; omega
        · have q1 := toList_ne hu
          have HNX : Hid ((pok && !hasN (hs.take (i + 1)) u) = true) := by
            show _ = _
            rw [HHT.out, decide_eq_false hu, hb1.1, hb1.2]; rfl
          clear hb0 hb1 hu
          go_wp2_with fail
          go_roundw
          case rel => exact ⟨i + 1, hlt, by rw [Int.natCast_succ], by rw [HNX.out], trivial⟩
          case measure => simp only [intOf]; omega
    · obtain rfl : i = hs.length := by omega
      rw [List.take_length]
      have hii2 : (hs.length : Int) ≤ 100 := by omega
      obtain ⟨e0, e1, e2, e3, el⟩ := cells4 G4.out.e
      obtain ⟨p0, p1, p2, p3, p4, p5, p6, p7, p8⟩ := cells9 G4.out.p
      have pl := lt_of_heap G4.out.p
      have hmul : wrap64 (cap * 1000) = cap * 1000 := by unfold wrap64; omega
      clear hi hlt hsl
      have HOO : Hid (out = if (pok && !hasN hs u) = false ∨ va < pmn ∨ pmx < va ∨ cap * 1000 < va then none else match Mny.grossO va pb pr with | none => none | some g => if timeB (vx + pd) = true then some ⟨g, vx + pd, ⟨ch, nd, va, vx⟩ :: hs⟩ else none) := by
        show _ = _
        rw [← HO.out]
        unfold givesW
        dsimp only
        by_cases c4 : cap * 1000 < va
        · rw [if_pos c4, if_pos (.inr (.inr (.inr c4)))]
        · rw [if_neg c4]
          unfold beforeW
          dsimp only
          cases hh : hasN hs u with
          | true => rw [if_pos rfl, if_pos (.inl (by simp))]
          | false =>
            rw [if_neg (by decide)]
            have h1 := HPP.out
            unfold polR polT at h1
            cases hpo : polOf P ch u with
            | none =>
              rw [hpo] at h1
              dsimp only at h1
              have h2 : pok = false := (congrArg Prod.snd h1).symm
              rw [if_pos (.inl (by rw [h2]; rfl))]
            | some q =>
              rw [hpo] at h1
              dsimp only at h1
              have h2 := congrArg Prod.fst h1
              have h3 := congrArg Prod.snd h1
              dsimp only at h2 h3
              subst h2
              dsimp only at h3
              dsimp only
              unfold befP
              dsimp only
              by_cases hc : po = true ∨ va < pmn ∨ pmx < va
              · rw [if_pos hc, if_pos]
                rcases hc with hc | hc | hc
                · left; rw [← h3, hc]; rfl
                · exact .inr (.inl hc)
                · exact .inr (.inr (.inl hc))
              · rw [if_neg hc, if_neg]
                · rfl
                · rintro (h | h | h | h)
                  · rw [← h3] at h
                    have : po = true := by cases po; simp at h; rfl
                    exact hc (.inl this)
                  · exact hc (.inr (.inl h))
                  · exact hc (.inr (.inr h))
                  · exact c4 h
      have HPD : Hid (pok = true → 0 ≤ pd ∧ pd < 2147483648) := fun hpk => by
        have h1 := HPP.out
        unfold polR polT at h1
        cases hpo : polOf P ch u with
        | none => rw [hpo] at h1; have h2 : pok = false := (congrArg Prod.snd h1).symm; rw [hpk] at h2; cases h2
        | some q =>
          rw [hpo] at h1
          have h2 : q = _ := congrArg Prod.fst h1
          have h3 := HPL.out q (pol_mem hpo)
          rw [h2] at h3
          exact ⟨h3.d0, h3.d1⟩
      clear HO HPP
      cases hokf : (pok && !hasN hs u) with
      | false =>
        have hon : out = none := by rw [HOO.out, if_pos (.inl hokf)]
        subst hon
        clear hokf HOO
        go_wp2_with (with_reducible refine wpList_store_row rfl 151 (.tmp 8) (.tmp 65) rfl (k + 2) #[.string ⟨#[]⟩, .int .i64 0, .int .i64 0, .slice none 0 0] rfl rfl 151 _ G4.out.r (by kernel_rfl) rfl (by simp [Value.oneCell']) ?_)
        have hl := run_loadVar_row (P := Tryz.prog) (wr.setRow (k + 2) #[.string ⟨#[]⟩, .int .i64 0, .int .i64 0, .slice none 0 0]) (k + 2) 151 151 #[.string ⟨#[]⟩, .int .i64 0, .int .i64 0, .slice none 0 0] (0, 0) _ (setRow_heap wr (k + 2) _ _ 151 _ G4.out.r) Tryz.underlying151 rfl (by kernel_rfl)
        refine bodyPost_ret (results_cell_tmp Tryz.results84 _ _ _ rfl hl) rfl ⟨below_setRow G4.out.bel (by have := HK.out; omega) _, rfl⟩
      | true =>
        have hpk : pok = true := by cases pok; simp at hokf; rfl
        by_cases c1 : va < pmn
        · have d1 : decide (va < pmn) = true := decide_eq_true c1
          have hon : out = none := by rw [HOO.out, if_pos (.inr (.inl c1))]
          subst hon
          clear hokf HOO c1 hpk
          go_wp2_with (with_reducible refine wpList_store_row rfl 151 (.tmp 8) (.tmp 65) rfl (k + 2) #[.string ⟨#[]⟩, .int .i64 0, .int .i64 0, .slice none 0 0] rfl rfl 151 _ G4.out.r (by kernel_rfl) rfl (by simp [Value.oneCell']) ?_)
          have hl := run_loadVar_row (P := Tryz.prog) (wr.setRow (k + 2) #[.string ⟨#[]⟩, .int .i64 0, .int .i64 0, .slice none 0 0]) (k + 2) 151 151 #[.string ⟨#[]⟩, .int .i64 0, .int .i64 0, .slice none 0 0] (0, 0) _ (setRow_heap wr (k + 2) _ _ 151 _ G4.out.r) Tryz.underlying151 rfl (by kernel_rfl)
          refine bodyPost_ret (results_cell_tmp Tryz.results84 _ _ _ rfl hl) rfl ⟨below_setRow G4.out.bel (by have := HK.out; omega) _, rfl⟩
        · have d1 : decide (va < pmn) = false := decide_eq_false c1
          by_cases c2 : pmx < va
          · have d2 : decide (pmx < va) = true := decide_eq_true c2
            have hon : out = none := by rw [HOO.out, if_pos (.inr (.inr (.inl c2)))]
            subst hon
            clear hokf HOO c1 c2 hpk
            go_wp2_with (with_reducible refine wpList_store_row rfl 151 (.tmp 8) (.tmp 65) rfl (k + 2) #[.string ⟨#[]⟩, .int .i64 0, .int .i64 0, .slice none 0 0] rfl rfl 151 _ G4.out.r (by kernel_rfl) rfl (by simp [Value.oneCell']) ?_)
            have hl := run_loadVar_row (P := Tryz.prog) (wr.setRow (k + 2) #[.string ⟨#[]⟩, .int .i64 0, .int .i64 0, .slice none 0 0]) (k + 2) 151 151 #[.string ⟨#[]⟩, .int .i64 0, .int .i64 0, .slice none 0 0] (0, 0) _ (setRow_heap wr (k + 2) _ _ 151 _ G4.out.r) Tryz.underlying151 rfl (by kernel_rfl)
            refine bodyPost_ret (results_cell_tmp Tryz.results84 _ _ _ rfl hl) rfl ⟨below_setRow G4.out.bel (by have := HK.out; omega) _, rfl⟩
          · have d2 : decide (pmx < va) = false := decide_eq_false c2
            by_cases c3 : cap * 1000 < va
            · have d3 : decide (cap * 1000 < va) = true := decide_eq_true c3
              have hon : out = none := by rw [HOO.out, if_pos (.inr (.inr (.inr c3)))]
              subst hon
              clear hokf HOO c1 c2 c3 hpk
              go_wp2_with (with_reducible refine wpList_store_row rfl 151 (.tmp 8) (.tmp 65) rfl (k + 2) #[.string ⟨#[]⟩, .int .i64 0, .int .i64 0, .slice none 0 0] rfl rfl 151 _ G4.out.r (by kernel_rfl) rfl (by simp [Value.oneCell']) ?_)
              have hl := run_loadVar_row (P := Tryz.prog) (wr.setRow (k + 2) #[.string ⟨#[]⟩, .int .i64 0, .int .i64 0, .slice none 0 0]) (k + 2) 151 151 #[.string ⟨#[]⟩, .int .i64 0, .int .i64 0, .slice none 0 0] (0, 0) _ (setRow_heap wr (k + 2) _ _ 151 _ G4.out.r) Tryz.underlying151 rfl (by kernel_rfl)
              refine bodyPost_ret (results_cell_tmp Tryz.results84 _ _ _ rfl hl) rfl ⟨below_setRow G4.out.bel (by have := HK.out; omega) _, rfl⟩
            · have d3 : decide (cap * 1000 < va) = false := decide_eq_false c3
              rw [if_neg (by rw [hokf]; rintro (h | h | h | h); cases h; exact c1 h; exact c2 h; exact c3 h)] at HOO
              obtain ⟨pd0, pd1⟩ := HPD.out hpk
              clear hokf c1 c2 c3 hpk HPD
              cases hg : Mny.grossO va pb pr with
              | none =>
                rw [hg] at HOO
                have HG := Lib.hid hg
                have hon : out = none := HOO.out
                subst hon
                have HGN := Lib.hid (fun (W : World) (h : Below wr.heap.size wr W) => G4.out.next h)
                clear hg HOO
                go_wp2_with (first
                  | (go_at_call 143; (with_reducible refine Calls.mono (Mny.grossr_any va pb pr _) ?_); rintro e w6 hh; obtain ⟨rfl, hb6⟩ := Mny.opt_none hh HG.out; have G6 := Lib.hid (HGN.out _ hb6); clear hh hb6)
                  | (with_reducible refine wpList_store_row rfl 151 (.tmp 8) (.tmp 87) rfl (k + 2) #[.string ⟨#[]⟩, .int .i64 0, .int .i64 0, .slice none 0 0] rfl rfl 151 _ G6.out.r (by kernel_rfl) rfl (by simp [Value.oneCell']) ?_))
                have hl := run_loadVar_row (P := Tryz.prog) (w6.setRow (k + 2) #[.string ⟨#[]⟩, .int .i64 0, .int .i64 0, .slice none 0 0]) (k + 2) 151 151 #[.string ⟨#[]⟩, .int .i64 0, .int .i64 0, .slice none 0 0] (0, 0) _ (setRow_heap w6 (k + 2) _ _ 151 _ G6.out.r) Tryz.underlying151 rfl (by kernel_rfl)
                refine bodyPost_ret (results_cell_tmp Tryz.results84 _ _ _ rfl hl) rfl ⟨below_setRow G6.out.bel (by have := HK.out; omega) _, rfl⟩
              | some g =>
                rw [hg] at HOO
                have HG := Lib.hid hg
                have HGN := Lib.hid (fun (W : World) (h : Below wr.heap.size wr W) => G4.out.next h)
                clear hg
                cases htt : timeB (vx + pd) with
                | false =>
                  have hon : out = none := by rw [HOO.out]; dsimp only; rw [htt]; rfl
                  subst hon
                  obtain ⟨ys, hys⟩ : ∃ y, wrap64 (vx + pd) = y := ⟨_, rfl⟩
                  have htb : timeB ys = false := by
                    refine time_not (fun h => ?_)
                    have h1 := (time_iff _).1 h
                    have h2 : ¬ (0 ≤ vx + pd ∧ vx + pd < 2147483648) := fun q => by rw [(time_iff _).2 q] at htt; cases htt
                    have hb0 := HOK.out.e0; have hb1 := HOK.out.e1
                    dsimp only at hb0 hb1
                    unfold wrap64 at hys
                    omega
                  have HTB := Lib.hid htb
                  clear HOO htt htb
                  go_wp2_with (first
                    | (go_at_call 143; (with_reducible refine Calls.mono (Mny.grossr_any va pb pr _) ?_); rintro e w6 hh; obtain ⟨rfl, hb6⟩ := Mny.opt_some hh HG.out; have G6 := Lib.hid (HGN.out _ hb6); obtain ⟨m0, m1, m2, m3, ml⟩ := cells4 G6.out.n; obtain ⟨o0, o1, o2, o3, o4, o5, o6, o7, o8⟩ := cells9 G6.out.p; clear hh hb6)
                    | (go_at_call 140; (with_reducible refine Calls.mono (time_any ys _) ?_); rintro e w7 ⟨rfl, rfl⟩; have htb := HTB.out; rw [htb])
                    | (with_reducible refine wpList_store_row rfl 151 (.tmp 8) (.tmp 87) rfl (k + 2) #[.string ⟨#[]⟩, .int .i64 0, .int .i64 0, .slice none 0 0] rfl rfl 151 _ G6.out.r (by kernel_rfl) rfl (by simp [Value.oneCell']) ?_))
                  have hl := run_loadVar_row (P := Tryz.prog) (w7.setRow (k + 2) #[.string ⟨#[]⟩, .int .i64 0, .int .i64 0, .slice none 0 0]) (k + 2) 151 151 #[.string ⟨#[]⟩, .int .i64 0, .int .i64 0, .slice none 0 0] (0, 0) _ (setRow_heap w7 (k + 2) _ _ 151 _ G6.out.r) Tryz.underlying151 rfl (by kernel_rfl)
                  refine bodyPost_ret (results_cell_tmp Tryz.results84 _ _ _ rfl hl) rfl ⟨below_setRow G6.out.bel (by have := HK.out; omega) _, rfl⟩
                | true =>
                  obtain ⟨t0, t1⟩ := (time_iff _).1 htt
                  have hsum : wrap64 (vx + pd) = vx + pd := by unfold wrap64; omega
                  have hon : out = some ⟨g, vx + pd, ⟨ch, nd, va, vx⟩ :: hs⟩ := by rw [HOO.out]; dsimp only; rw [htt]; rfl
                  subst hon
                  have HTB := Lib.hid htt
                  have HSUM := Lib.hid hsum
                  have HOV := Lib.hid (fun (W : World) (h : Below w.heap.size w W) => over_any ch ⟨nd, ⟨va, vx, hs⟩, ho, hc⟩ W (HT.out.below h) HSL.out)
                  clear HOO htt t0 t1 pd0 pd1
                  go_wp2_with (first
                    | (go_at_call 143; (with_reducible refine Calls.mono (Mny.grossr_any va pb pr _) ?_); rintro e w6 hh; obtain ⟨rfl, hb6⟩ := Mny.opt_some hh HG.out; have G6 := Lib.hid (HGN.out _ hb6); obtain ⟨m0, m1, m2, m3, ml⟩ := cells4 G6.out.n; obtain ⟨o0, o1, o2, o3, o4, o5, o6, o7, o8⟩ := cells9 G6.out.p; clear hh hb6)
                    | (go_at_call 140; (with_reducible refine Calls.mono (time_any (vx + pd) _) ?_); rintro e w7 ⟨rfl, rfl⟩; have htb := HTB.out; rw [htb]))
                  have hnp : k + 2 ≠ pq := by
                    intro e
                    have h1 := G6.out.r
                    rw [e, G6.out.p] at h1
                    cases h1
                  have hsum2 : IntKind.i64.wrap (vx + pd) = vx + pd := by rw [Go.IntWalk.i64_left]; exact HSUM.out
                  have HOVG : Hid (∀ W, GvS w k #[.string ch, .string ea, .string eb, .int .i64 cap] #[.string nd, .int .i64 va, .int .i64 vx, .slice ho hs.length hc] pq #[.string pc, .string pf, .int .i64 ps, .int .i64 pb, .int .i64 pr, .int .i64 pd, .int .i64 pmn, .int .i64 pmx, .bool po] W → Calls Tryz.prog 86 #[.string ch, .agg #[.string nd, .int .i64 va, .int .i64 vx, .slice ho hs.length hc]] W fun e w' => ∃ o c, e = .returned (.slice o (hs.length + 1) c) ∧ RowsAt 4 hpC o (⟨ch, nd, va, vx⟩ :: hs) w' ∧ GvS w k #[.string ch, .string ea, .string eb, .int .i64 cap] #[.string nd, .int .i64 va, .int .i64 vx, .slice ho hs.length hc] pq #[.string pc, .string pf, .int .i64 ps, .int .i64 pb, .int .i64 pr, .int .i64 pd, .int .i64 pmn, .int .i64 pmx, .bool po] w' ∧ NewA w.heap.size o) := fun W h => (HOV.out W h.bel).mono fun e w' q => by
                    obtain ⟨o, c, q1, q2, q3, q4⟩ := q
                    exact ⟨o, c, q1, q2, h.next q3, q4.weak h.bel.size⟩
                  have Z7 : GvS w k #[.string ch, .string ea, .string eb, .int .i64 cap] #[.string nd, .int .i64 va, .int .i64 vx, .slice ho hs.length hc] pq #[.string pc, .string pf, .int .i64 ps, .int .i64 pb, .int .i64 pr, .int .i64 pd, .int .i64 pmn, .int .i64 pmx, .bool po] w7.drew := G6.out.next (Below.refl _ _).drew
                  have hcs := gv_cells Z7
                  clear m0 m1 m2 m3 ml o0 o1 o2 o3 o4 o5 o6 o7 o8 HOV htb
                  obtain ⟨s0, s1, s2, s3, s4, s5⟩ := hcs
                  go_region_held3 (fun W => W.cell? ⟨k + 1, 0, none⟩ = some (.string nd) ∧ W.cell? ⟨k + 1, 1, none⟩ = some (.int .i64 va) ∧ W.cell? ⟨k + 1, 2, none⟩ = some (.int .i64 vx) ∧ W.cell? ⟨k + 1, 3, none⟩ = some (.slice ho hs.length hc) ∧ W.cell? ⟨pq, 5, none⟩ = some (.int .i64 pd) ∧ W.cell? ⟨k, 0, none⟩ = some (.string ch))
                    (first | exact ⟨s0, s1, s2, s3, s4, s5⟩ | exact gv_cells (by assumption) | exact gv_set hnp (by assumption) | go_keep)
                    ((first | (go_at_call 86; (with_reducible refine Calls.mono (HOVG.out _ (by assumption)) ?_); rintro e w8 ⟨oo, oc, rfl, hr8, Z8, hn8⟩; have R8 := Lib.hid hr8; have N8 := Lib.hid hn8; clear hn8; obtain ⟨r0, r1, r2, r3, rl⟩ := cells4 Z8.r; have f0 := froz9 Z8.r 0; have f1 := froz9 Z8.r 1; have f2 := froz9 Z8.r 2; have f3 := froz9 Z8.r 3; clear hr8)))
                  go_wp2_with fail
                  have HR9 : ((((w8.setCell ⟨k + 2, 0, none⟩ (.string u)).setCell ⟨k + 2, 1, none⟩ (.int .i64 g)).setCell ⟨k + 2, 2, none⟩ (.int .i64 (vx + pd))).setCell ⟨k + 2, 3, none⟩ (.slice oo (hs.length + 1) oc)).heap[k + 2]? = some (.cells #[.string u, .int .i64 g, .int .i64 (vx + pd), .slice oo (hs.length + 1) oc] 151 (0, 0)) := row4_set Z8.r
                  have HF9 : Fr (fun i => i = k + 2) w8 ((((w8.setCell ⟨k + 2, 0, none⟩ (.string u)).setCell ⟨k + 2, 1, none⟩ (.int .i64 g)).setCell ⟨k + 2, 2, none⟩ (.int .i64 (vx + pd))).setCell ⟨k + 2, 3, none⟩ (.slice oo (hs.length + 1) oc)) := fr4_set
                  have hkk := HK.out
                  have HB9 : Below w.heap.size w ((((w8.setCell ⟨k + 2, 0, none⟩ (.string u)).setCell ⟨k + 2, 1, none⟩ (.int .i64 g)).setCell ⟨k + 2, 2, none⟩ (.int .i64 (vx + pd))).setCell ⟨k + 2, 3, none⟩ (.slice oo (hs.length + 1) oc)) := below_fr Z8.bel HF9 (by omega) Z8.bel.size
                  have HRR : RowsAt 4 hpC oo (⟨ch, nd, va, vx⟩ :: hs) ((((w8.setCell ⟨k + 2, 0, none⟩ (.string u)).setCell ⟨k + 2, 1, none⟩ (.int .i64 g)).setCell ⟨k + 2, 2, none⟩ (.int .i64 (vx + pd))).setCell ⟨k + 2, 3, none⟩ (.slice oo (hs.length + 1) oc)) := rows_fr R8.out (fun b off e _ => hops_ne (v := .bool true) R8.out Z8.r b off e) HF9
                  clear r0 r1 r2 r3 rl f0 f1 f2 f3 s0 s1 s2 s3 s4 s5 HF9
                  generalize ((((w8.setCell ⟨k + 2, 0, none⟩ (.string u)).setCell ⟨k + 2, 1, none⟩ (.int .i64 g)).setCell ⟨k + 2, 2, none⟩ (.int .i64 (vx + pd))).setCell ⟨k + 2, 3, none⟩ (.slice oo (hs.length + 1) oc)) = w9 at HR9 HB9 HRR ⊢
                  have hl := run_loadVar_row (P := Tryz.prog) w9 (k + 2) 151 151 #[.string u, .int .i64 g, .int .i64 (vx + pd), .slice oo (hs.length + 1) oc] (0, 0) _ HR9 Tryz.underlying151 rfl (by kernel_rfl)
                  refine bodyPost_ret (results_cell_tmp Tryz.results84 _ _ _ rfl hl) rfl ⟨HB9, oo, oc, rfl, HRR, N8.out⟩
end Go.Proofs.YtbdimlppnhcicaaGreatDoor
/- route: what the document refuses -/
namespace Go.Proofs.YtbdimlppnhcicaaGreatDoor
set_option linter.unusedVariables false
open Go.RowKit Rte
/-! route: what the document refuses -/
theorem ask_cells45 {W : World} {k : Nat} {af ad : ByteArray} {aa ax al ae : Int} {v : Value} (h : W.heap[k]? = some (.cells #[.string af, .string ad, .int .i64 aa, .int .i64 ax, .int .i64 al, .int .i64 ae, v] 45 (0, 0))) :
    W.cell? ⟨k, 0, none⟩ = some (.string af) ∧ W.cell? ⟨k, 1, none⟩ = some (.string ad) ∧ W.cell? ⟨k, 2, none⟩ = some (.int .i64 aa) ∧ W.cell? ⟨k, 3, none⟩ = some (.int .i64 ax) ∧ W.cell? ⟨k, 4, none⟩ = some (.int .i64 al) ∧ W.cell? ⟨k, 5, none⟩ = some (.int .i64 ae) ∧ W.cell? ⟨k, 6, none⟩ = some v := by
  refine ⟨?_, ?_, ?_, ?_, ?_, ?_, ?_⟩ <;> (rw [cell_of_row _ _ _ _ _ _ h]; rfl)
def RefPost (n : Int) (w : World) (e : Ending) (w' : World) : Prop := e = .returned (.int .i64 n) ∧ Below w.heap.size w w'
set_option maxRecDepth 100000 in
set_option maxHeartbeats 16000000 in
theorem refused_any (oe : Option Addr) (E : List Edg) (ce : Nat) (op : Option Addr) (P : List Plc) (cp : Nat) (A : AskR) (ob : Option Addr) (cb : Nat) (w : World) (hs1 : A.frm.size ≤ maxLen) (hs2 : A.dst.size ≤ maxLen)
    (hE : RowsAt 4 edgC oe E w) (hP : RowsAt 9 plcC op P w) : Calls Tryz.prog 81 #[.slice oe E.length ce, .slice op P.length cp, askV A ob cb] w (RefPost (refusedN isKey E P A) w) := by
  obtain ⟨af, ad, aa, ax, al, ae, bad⟩ := A
  have HEF := Lib.hid (fun W (hW : Below w.heap.size w W) => dkey_any af W hs1)
  have HED := Lib.hid (fun W (hW : Below w.heap.size w W) => dkey_any ad W hs2)
  obtain ⟨out, hout⟩ : ∃ o, refusedN isKey E P ⟨af, ad, aa, ax, al, ae, bad⟩ = o := ⟨_, rfl⟩
  rw [hout]
  have hr := early_ref E P ⟨af, ad, aa, ax, al, ae, bad⟩
  rw [hout] at hr
  have HPP := Lib.hid hP; have HEE := Lib.hid hE
  clear hs1 hs2 hE hP hout
  show Calls Tryz.prog 81 #[.slice oe E.length ce, .slice op P.length cp, .agg #[.string af, .string ad, .int .i64 aa, .int .i64 ax, .int .i64 al, .int .i64 ae, .slice ob bad.length cb]] w _
  by_cases c1 : 256 < E.length ∨ 512 < P.length ∨ 256 < bad.length
  · have ho : out = 3 := by rw [hr]; unfold earlyN; rw [if_pos c1]; rfl
    subst ho
    clear hr
    by_cases g1 : 256 < E.length
    · have d1 : decide ((256 : Int) < (E.length : Int)) = true := decide_eq_true (by omega)
      clear c1 g1
      go_enter Tryz.func81, Tryz.ntmps81
      go_wp2_with (first| (go_at_call 139; (with_reducible refine Calls.mono (HEF.out _ (by repeat (first | exact below_new' _ _ | refine bdN ?_ _ | refine Below.drew ?_))) ?_); rintro e w1 ⟨rfl, hb1⟩; have B1 : Hid (Below w.heap.size w w1) := btr (by repeat (first | exact below_new' _ _ | refine bdN ?_ _ | refine Below.drew ?_)) hb1; have KA1 : w1.heap[w.heap.size]? = some (.cells #[.string af, .string ad, .int .i64 aa, .int .i64 ax, .int .i64 al, .int .i64 ae, .slice ob bad.length cb] 45 (0, 0)) := (hb1.block _ (by simp)).trans (heap_alloc_at _ _); obtain ⟨a0, a1, a2, a3, a4, a5, a6⟩ := ask_cells45 KA1; have KK := Lib.hid KA1; clear hb1 KA1)| (go_at_call 139; (with_reducible refine Calls.mono (HED.out _ B1.out) ?_); rintro e w2 ⟨rfl, hb2⟩; have B2 : Hid (Below w.heap.size w w2) := btr B1.out hb2; have KA2 : w2.heap[w.heap.size]? = some (.cells #[.string af, .string ad, .int .i64 aa, .int .i64 ax, .int .i64 al, .int .i64 ae, .slice ob bad.length cb] 45 (0, 0)) := (hb2.block _ (lt_of_heap KK.out)).trans KK.out; obtain ⟨b0, b1, b2, b3, b4, b5, b6⟩ := ask_cells45 KA2; clear hb2 KA2)| (go_at_call 140; (with_reducible refine Calls.mono (time_any _ _) ?_); rintro e w3 ⟨rfl, rfl⟩))
      go_ret
      exact ⟨rfl, by repeat (first | exact B2.out | exact B1.out | exact below_new' _ _ | refine bdN ?_ _ | refine Below.drew ?_)⟩
    · have d1 : decide ((256 : Int) < (E.length : Int)) = false := decide_eq_false (by omega)
      by_cases g2 : 512 < P.length
      · have d2 : decide ((512 : Int) < (P.length : Int)) = true := decide_eq_true (by omega)
        clear c1 g1 g2
        go_enter Tryz.func81, Tryz.ntmps81
        go_wp2_with (first| (go_at_call 139; (with_reducible refine Calls.mono (HEF.out _ (by repeat (first | exact below_new' _ _ | refine bdN ?_ _ | refine Below.drew ?_))) ?_); rintro e w1 ⟨rfl, hb1⟩; have B1 : Hid (Below w.heap.size w w1) := btr (by repeat (first | exact below_new' _ _ | refine bdN ?_ _ | refine Below.drew ?_)) hb1; have KA1 : w1.heap[w.heap.size]? = some (.cells #[.string af, .string ad, .int .i64 aa, .int .i64 ax, .int .i64 al, .int .i64 ae, .slice ob bad.length cb] 45 (0, 0)) := (hb1.block _ (by simp)).trans (heap_alloc_at _ _); obtain ⟨a0, a1, a2, a3, a4, a5, a6⟩ := ask_cells45 KA1; have KK := Lib.hid KA1; clear hb1 KA1)| (go_at_call 139; (with_reducible refine Calls.mono (HED.out _ B1.out) ?_); rintro e w2 ⟨rfl, hb2⟩; have B2 : Hid (Below w.heap.size w w2) := btr B1.out hb2; have KA2 : w2.heap[w.heap.size]? = some (.cells #[.string af, .string ad, .int .i64 aa, .int .i64 ax, .int .i64 al, .int .i64 ae, .slice ob bad.length cb] 45 (0, 0)) := (hb2.block _ (lt_of_heap KK.out)).trans KK.out; obtain ⟨b0, b1, b2, b3, b4, b5, b6⟩ := ask_cells45 KA2; clear hb2 KA2)| (go_at_call 140; (with_reducible refine Calls.mono (time_any _ _) ?_); rintro e w3 ⟨rfl, rfl⟩))
        go_ret
        exact ⟨rfl, by repeat (first | exact B2.out | exact B1.out | exact below_new' _ _ | refine bdN ?_ _ | refine Below.drew ?_)⟩
      · have d2 : decide ((512 : Int) < (P.length : Int)) = false := decide_eq_false (by omega)
        have d3 : decide ((256 : Int) < (bad.length : Int)) = true := decide_eq_true (by omega)
        clear c1 g1 g2
        go_enter Tryz.func81, Tryz.ntmps81
        go_wp2_with (first| (go_at_call 139; (with_reducible refine Calls.mono (HEF.out _ (by repeat (first | exact below_new' _ _ | refine bdN ?_ _ | refine Below.drew ?_))) ?_); rintro e w1 ⟨rfl, hb1⟩; have B1 : Hid (Below w.heap.size w w1) := btr (by repeat (first | exact below_new' _ _ | refine bdN ?_ _ | refine Below.drew ?_)) hb1; have KA1 : w1.heap[w.heap.size]? = some (.cells #[.string af, .string ad, .int .i64 aa, .int .i64 ax, .int .i64 al, .int .i64 ae, .slice ob bad.length cb] 45 (0, 0)) := (hb1.block _ (by simp)).trans (heap_alloc_at _ _); obtain ⟨a0, a1, a2, a3, a4, a5, a6⟩ := ask_cells45 KA1; have KK := Lib.hid KA1; clear hb1 KA1)| (go_at_call 139; (with_reducible refine Calls.mono (HED.out _ B1.out) ?_); rintro e w2 ⟨rfl, hb2⟩; have B2 : Hid (Below w.heap.size w w2) := btr B1.out hb2; have KA2 : w2.heap[w.heap.size]? = some (.cells #[.string af, .string ad, .int .i64 aa, .int .i64 ax, .int .i64 al, .int .i64 ae, .slice ob bad.length cb] 45 (0, 0)) := (hb2.block _ (lt_of_heap KK.out)).trans KK.out; obtain ⟨b0, b1, b2, b3, b4, b5, b6⟩ := ask_cells45 KA2; clear hb2 KA2)| (go_at_call 140; (with_reducible refine Calls.mono (time_any _ _) ?_); rintro e w3 ⟨rfl, rfl⟩))
        go_ret
        exact ⟨rfl, by repeat (first | exact B2.out | exact B1.out | exact below_new' _ _ | refine bdN ?_ _ | refine Below.drew ?_)⟩
  have hl1 : E.length ≤ 256 := by omega
  have hl2 : P.length ≤ 512 := by omega
  have HL1 := Lib.hid hl1; have HL2 := Lib.hid hl2
  have d1 : decide ((256 : Int) < (E.length : Int)) = false := decide_eq_false (by omega)
  have d2 : decide ((512 : Int) < (P.length : Int)) = false := decide_eq_false (by omega)
  have d3 : decide ((256 : Int) < (bad.length : Int)) = false := decide_eq_false (by omega)
  by_cases c2 : isKey af = false ∨ isKey ad = false ∨ af = ad ∨ timeB ax = false ∨ timeB al = false
  · have ho : out = 2 := by rw [hr]; unfold earlyN; rw [if_neg c1, if_pos c2]; rfl
    subst ho
    clear hr c1 hl1 hl2
    cases k1 : isKey af with
    | false =>
      rw [k1] at HEF
      clear k1 c2
      go_enter Tryz.func81, Tryz.ntmps81
      go_wp2_with (first| (go_at_call 139; (with_reducible refine Calls.mono (HEF.out _ (by repeat (first | exact below_new' _ _ | refine bdN ?_ _ | refine Below.drew ?_))) ?_); rintro e w1 ⟨rfl, hb1⟩; have B1 : Hid (Below w.heap.size w w1) := btr (by repeat (first | exact below_new' _ _ | refine bdN ?_ _ | refine Below.drew ?_)) hb1; have KA1 : w1.heap[w.heap.size]? = some (.cells #[.string af, .string ad, .int .i64 aa, .int .i64 ax, .int .i64 al, .int .i64 ae, .slice ob bad.length cb] 45 (0, 0)) := (hb1.block _ (by simp)).trans (heap_alloc_at _ _); obtain ⟨a0, a1, a2, a3, a4, a5, a6⟩ := ask_cells45 KA1; have KK := Lib.hid KA1; clear hb1 KA1)| (go_at_call 139; (with_reducible refine Calls.mono (HED.out _ B1.out) ?_); rintro e w2 ⟨rfl, hb2⟩; have B2 : Hid (Below w.heap.size w w2) := btr B1.out hb2; have KA2 : w2.heap[w.heap.size]? = some (.cells #[.string af, .string ad, .int .i64 aa, .int .i64 ax, .int .i64 al, .int .i64 ae, .slice ob bad.length cb] 45 (0, 0)) := (hb2.block _ (lt_of_heap KK.out)).trans KK.out; obtain ⟨b0, b1, b2, b3, b4, b5, b6⟩ := ask_cells45 KA2; clear hb2 KA2)| (go_at_call 140; (with_reducible refine Calls.mono (time_any _ _) ?_); rintro e w3 ⟨rfl, rfl⟩))
      go_ret
      exact ⟨rfl, by repeat (first | exact B2.out | exact B1.out | exact below_new' _ _ | refine bdN ?_ _ | refine Below.drew ?_)⟩
    | true =>
      rw [k1] at HEF c2
      cases k2 : isKey ad with
      | false =>
        rw [k2] at HED
        clear k1 k2 c2
        go_enter Tryz.func81, Tryz.ntmps81
        go_wp2_with (first| (go_at_call 139; (with_reducible refine Calls.mono (HEF.out _ (by repeat (first | exact below_new' _ _ | refine bdN ?_ _ | refine Below.drew ?_))) ?_); rintro e w1 ⟨rfl, hb1⟩; have B1 : Hid (Below w.heap.size w w1) := btr (by repeat (first | exact below_new' _ _ | refine bdN ?_ _ | refine Below.drew ?_)) hb1; have KA1 : w1.heap[w.heap.size]? = some (.cells #[.string af, .string ad, .int .i64 aa, .int .i64 ax, .int .i64 al, .int .i64 ae, .slice ob bad.length cb] 45 (0, 0)) := (hb1.block _ (by simp)).trans (heap_alloc_at _ _); obtain ⟨a0, a1, a2, a3, a4, a5, a6⟩ := ask_cells45 KA1; have KK := Lib.hid KA1; clear hb1 KA1)| (go_at_call 139; (with_reducible refine Calls.mono (HED.out _ B1.out) ?_); rintro e w2 ⟨rfl, hb2⟩; have B2 : Hid (Below w.heap.size w w2) := btr B1.out hb2; have KA2 : w2.heap[w.heap.size]? = some (.cells #[.string af, .string ad, .int .i64 aa, .int .i64 ax, .int .i64 al, .int .i64 ae, .slice ob bad.length cb] 45 (0, 0)) := (hb2.block _ (lt_of_heap KK.out)).trans KK.out; obtain ⟨b0, b1, b2, b3, b4, b5, b6⟩ := ask_cells45 KA2; clear hb2 KA2)| (go_at_call 140; (with_reducible refine Calls.mono (time_any _ _) ?_); rintro e w3 ⟨rfl, rfl⟩))
        go_ret
        exact ⟨rfl, by repeat (first | exact B2.out | exact B1.out | exact below_new' _ _ | refine bdN ?_ _ | refine Below.drew ?_)⟩
      | true =>
        rw [k2] at HED c2
        by_cases q : af = ad
        · have q1 : af.toList = ad.toList := by rw [q]
          clear k1 k2 c2 q
          go_enter Tryz.func81, Tryz.ntmps81
          go_wp2_with (first| (go_at_call 139; (with_reducible refine Calls.mono (HEF.out _ (by repeat (first | exact below_new' _ _ | refine bdN ?_ _ | refine Below.drew ?_))) ?_); rintro e w1 ⟨rfl, hb1⟩; have B1 : Hid (Below w.heap.size w w1) := btr (by repeat (first | exact below_new' _ _ | refine bdN ?_ _ | refine Below.drew ?_)) hb1; have KA1 : w1.heap[w.heap.size]? = some (.cells #[.string af, .string ad, .int .i64 aa, .int .i64 ax, .int .i64 al, .int .i64 ae, .slice ob bad.length cb] 45 (0, 0)) := (hb1.block _ (by simp)).trans (heap_alloc_at _ _); obtain ⟨a0, a1, a2, a3, a4, a5, a6⟩ := ask_cells45 KA1; have KK := Lib.hid KA1; clear hb1 KA1)| (go_at_call 139; (with_reducible refine Calls.mono (HED.out _ B1.out) ?_); rintro e w2 ⟨rfl, hb2⟩; have B2 : Hid (Below w.heap.size w w2) := btr B1.out hb2; have KA2 : w2.heap[w.heap.size]? = some (.cells #[.string af, .string ad, .int .i64 aa, .int .i64 ax, .int .i64 al, .int .i64 ae, .slice ob bad.length cb] 45 (0, 0)) := (hb2.block _ (lt_of_heap KK.out)).trans KK.out; obtain ⟨b0, b1, b2, b3, b4, b5, b6⟩ := ask_cells45 KA2; clear hb2 KA2)| (go_at_call 140; (with_reducible refine Calls.mono (time_any _ _) ?_); rintro e w3 ⟨rfl, rfl⟩))
          go_ret
          exact ⟨rfl, by repeat (first | exact B2.out | exact B1.out | exact below_new' _ _ | refine bdN ?_ _ | refine Below.drew ?_)⟩
        · have q1 := toList_ne q
          cases t1 : timeB ax with
          | false =>
            clear k1 k2 c2 q
            go_enter Tryz.func81, Tryz.ntmps81
            go_wp2_with (first| (go_at_call 139; (with_reducible refine Calls.mono (HEF.out _ (by repeat (first | exact below_new' _ _ | refine bdN ?_ _ | refine Below.drew ?_))) ?_); rintro e w1 ⟨rfl, hb1⟩; have B1 : Hid (Below w.heap.size w w1) := btr (by repeat (first | exact below_new' _ _ | refine bdN ?_ _ | refine Below.drew ?_)) hb1; have KA1 : w1.heap[w.heap.size]? = some (.cells #[.string af, .string ad, .int .i64 aa, .int .i64 ax, .int .i64 al, .int .i64 ae, .slice ob bad.length cb] 45 (0, 0)) := (hb1.block _ (by simp)).trans (heap_alloc_at _ _); obtain ⟨a0, a1, a2, a3, a4, a5, a6⟩ := ask_cells45 KA1; have KK := Lib.hid KA1; clear hb1 KA1)| (go_at_call 139; (with_reducible refine Calls.mono (HED.out _ B1.out) ?_); rintro e w2 ⟨rfl, hb2⟩; have B2 : Hid (Below w.heap.size w w2) := btr B1.out hb2; have KA2 : w2.heap[w.heap.size]? = some (.cells #[.string af, .string ad, .int .i64 aa, .int .i64 ax, .int .i64 al, .int .i64 ae, .slice ob bad.length cb] 45 (0, 0)) := (hb2.block _ (lt_of_heap KK.out)).trans KK.out; obtain ⟨b0, b1, b2, b3, b4, b5, b6⟩ := ask_cells45 KA2; clear hb2 KA2)| (go_at_call 140; (with_reducible refine Calls.mono (time_any _ _) ?_); rintro e w3 ⟨rfl, rfl⟩))
            go_ret
            exact ⟨rfl, by repeat (first | exact B2.out | exact B1.out | exact below_new' _ _ | refine bdN ?_ _ | refine Below.drew ?_)⟩
          | true =>
            have t2 : timeB al = false := by
              rcases c2 with h | h | h | h | h
              · cases h
              · cases h
              · exact absurd h q
              · rw [t1] at h; cases h
              · exact h
            clear k1 k2 c2 q
            go_enter Tryz.func81, Tryz.ntmps81
            go_wp2_with (first| (go_at_call 139; (with_reducible refine Calls.mono (HEF.out _ (by repeat (first | exact below_new' _ _ | refine bdN ?_ _ | refine Below.drew ?_))) ?_); rintro e w1 ⟨rfl, hb1⟩; have B1 : Hid (Below w.heap.size w w1) := btr (by repeat (first | exact below_new' _ _ | refine bdN ?_ _ | refine Below.drew ?_)) hb1; have KA1 : w1.heap[w.heap.size]? = some (.cells #[.string af, .string ad, .int .i64 aa, .int .i64 ax, .int .i64 al, .int .i64 ae, .slice ob bad.length cb] 45 (0, 0)) := (hb1.block _ (by simp)).trans (heap_alloc_at _ _); obtain ⟨a0, a1, a2, a3, a4, a5, a6⟩ := ask_cells45 KA1; have KK := Lib.hid KA1; clear hb1 KA1)| (go_at_call 139; (with_reducible refine Calls.mono (HED.out _ B1.out) ?_); rintro e w2 ⟨rfl, hb2⟩; have B2 : Hid (Below w.heap.size w w2) := btr B1.out hb2; have KA2 : w2.heap[w.heap.size]? = some (.cells #[.string af, .string ad, .int .i64 aa, .int .i64 ax, .int .i64 al, .int .i64 ae, .slice ob bad.length cb] 45 (0, 0)) := (hb2.block _ (lt_of_heap KK.out)).trans KK.out; obtain ⟨b0, b1, b2, b3, b4, b5, b6⟩ := ask_cells45 KA2; clear hb2 KA2)| (go_at_call 140; (with_reducible refine Calls.mono (time_any _ _) ?_); rintro e w3 ⟨rfl, rfl⟩))
            go_ret
            exact ⟨rfl, by repeat (first | exact B2.out | exact B1.out | exact below_new' _ _ | refine bdN ?_ _ | refine Below.drew ?_)⟩
  have k1 : isKey af = true := by cases h : isKey af; exact absurd (.inl h) c2; rfl
  have k2 : isKey ad = true := by cases h : isKey ad; exact absurd (.inr (.inl h)) c2; rfl
  have q1 := toList_ne (fun h => c2 (.inr (.inr (.inl h))) : af ≠ ad)
  have t1 : timeB ax = true := by cases h : timeB ax; exact absurd (.inr (.inr (.inr (.inl h)))) c2; rfl
  have t2 : timeB al = true := by cases h : timeB al; exact absurd (.inr (.inr (.inr (.inr h)))) c2; rfl
  rw [k1] at HEF
  rw [k2] at HED
  by_cases c3 : aa < 1 ∨ 2100000000000000000 < aa ∨ ae < 0 ∨ 2100000000000000000 < ae
  · have ho : out = 40 := by rw [hr]; unfold earlyN; rw [if_neg c1, if_neg c2, if_pos c3]; rfl
    subst ho
    clear hr c1 c2 hl1 hl2 k1 k2
    by_cases g1 : aa < 1
    · have e1 : decide (aa < 1) = true := decide_eq_true g1
      clear c3 g1
      go_enter Tryz.func81, Tryz.ntmps81
      go_wp2_with (first| (go_at_call 139; (with_reducible refine Calls.mono (HEF.out _ (by repeat (first | exact below_new' _ _ | refine bdN ?_ _ | refine Below.drew ?_))) ?_); rintro e w1 ⟨rfl, hb1⟩; have B1 : Hid (Below w.heap.size w w1) := btr (by repeat (first | exact below_new' _ _ | refine bdN ?_ _ | refine Below.drew ?_)) hb1; have KA1 : w1.heap[w.heap.size]? = some (.cells #[.string af, .string ad, .int .i64 aa, .int .i64 ax, .int .i64 al, .int .i64 ae, .slice ob bad.length cb] 45 (0, 0)) := (hb1.block _ (by simp)).trans (heap_alloc_at _ _); obtain ⟨a0, a1, a2, a3, a4, a5, a6⟩ := ask_cells45 KA1; have KK := Lib.hid KA1; clear hb1 KA1)| (go_at_call 139; (with_reducible refine Calls.mono (HED.out _ B1.out) ?_); rintro e w2 ⟨rfl, hb2⟩; have B2 : Hid (Below w.heap.size w w2) := btr B1.out hb2; have KA2 : w2.heap[w.heap.size]? = some (.cells #[.string af, .string ad, .int .i64 aa, .int .i64 ax, .int .i64 al, .int .i64 ae, .slice ob bad.length cb] 45 (0, 0)) := (hb2.block _ (lt_of_heap KK.out)).trans KK.out; obtain ⟨b0, b1, b2, b3, b4, b5, b6⟩ := ask_cells45 KA2; clear hb2 KA2)| (go_at_call 140; (with_reducible refine Calls.mono (time_any _ _) ?_); rintro e w3 ⟨rfl, rfl⟩))
      go_ret
      exact ⟨rfl, by repeat (first | exact B2.out | exact B1.out | exact below_new' _ _ | refine bdN ?_ _ | refine Below.drew ?_)⟩
    · have e1 : decide (aa < 1) = false := decide_eq_false g1
      by_cases g2 : 2100000000000000000 < aa
      · have e2 : decide (2100000000000000000 < aa) = true := decide_eq_true g2
        clear c3 g1 g2
        go_enter Tryz.func81, Tryz.ntmps81
        go_wp2_with (first| (go_at_call 139; (with_reducible refine Calls.mono (HEF.out _ (by repeat (first | exact below_new' _ _ | refine bdN ?_ _ | refine Below.drew ?_))) ?_); rintro e w1 ⟨rfl, hb1⟩; have B1 : Hid (Below w.heap.size w w1) := btr (by repeat (first | exact below_new' _ _ | refine bdN ?_ _ | refine Below.drew ?_)) hb1; have KA1 : w1.heap[w.heap.size]? = some (.cells #[.string af, .string ad, .int .i64 aa, .int .i64 ax, .int .i64 al, .int .i64 ae, .slice ob bad.length cb] 45 (0, 0)) := (hb1.block _ (by simp)).trans (heap_alloc_at _ _); obtain ⟨a0, a1, a2, a3, a4, a5, a6⟩ := ask_cells45 KA1; have KK := Lib.hid KA1; clear hb1 KA1)| (go_at_call 139; (with_reducible refine Calls.mono (HED.out _ B1.out) ?_); rintro e w2 ⟨rfl, hb2⟩; have B2 : Hid (Below w.heap.size w w2) := btr B1.out hb2; have KA2 : w2.heap[w.heap.size]? = some (.cells #[.string af, .string ad, .int .i64 aa, .int .i64 ax, .int .i64 al, .int .i64 ae, .slice ob bad.length cb] 45 (0, 0)) := (hb2.block _ (lt_of_heap KK.out)).trans KK.out; obtain ⟨b0, b1, b2, b3, b4, b5, b6⟩ := ask_cells45 KA2; clear hb2 KA2)| (go_at_call 140; (with_reducible refine Calls.mono (time_any _ _) ?_); rintro e w3 ⟨rfl, rfl⟩))
        go_ret
        exact ⟨rfl, by repeat (first | exact B2.out | exact B1.out | exact below_new' _ _ | refine bdN ?_ _ | refine Below.drew ?_)⟩
      · have e2 : decide (2100000000000000000 < aa) = false := decide_eq_false g2
        by_cases g3 : ae < 0
        · have e3 : decide (ae < 0) = true := decide_eq_true g3
          clear c3 g1 g2 g3
          go_enter Tryz.func81, Tryz.ntmps81
          go_wp2_with (first| (go_at_call 139; (with_reducible refine Calls.mono (HEF.out _ (by repeat (first | exact below_new' _ _ | refine bdN ?_ _ | refine Below.drew ?_))) ?_); rintro e w1 ⟨rfl, hb1⟩; have B1 : Hid (Below w.heap.size w w1) := btr (by repeat (first | exact below_new' _ _ | refine bdN ?_ _ | refine Below.drew ?_)) hb1; have KA1 : w1.heap[w.heap.size]? = some (.cells #[.string af, .string ad, .int .i64 aa, .int .i64 ax, .int .i64 al, .int .i64 ae, .slice ob bad.length cb] 45 (0, 0)) := (hb1.block _ (by simp)).trans (heap_alloc_at _ _); obtain ⟨a0, a1, a2, a3, a4, a5, a6⟩ := ask_cells45 KA1; have KK := Lib.hid KA1; clear hb1 KA1)| (go_at_call 139; (with_reducible refine Calls.mono (HED.out _ B1.out) ?_); rintro e w2 ⟨rfl, hb2⟩; have B2 : Hid (Below w.heap.size w w2) := btr B1.out hb2; have KA2 : w2.heap[w.heap.size]? = some (.cells #[.string af, .string ad, .int .i64 aa, .int .i64 ax, .int .i64 al, .int .i64 ae, .slice ob bad.length cb] 45 (0, 0)) := (hb2.block _ (lt_of_heap KK.out)).trans KK.out; obtain ⟨b0, b1, b2, b3, b4, b5, b6⟩ := ask_cells45 KA2; clear hb2 KA2)| (go_at_call 140; (with_reducible refine Calls.mono (time_any _ _) ?_); rintro e w3 ⟨rfl, rfl⟩))
          go_ret
          exact ⟨rfl, by repeat (first | exact B2.out | exact B1.out | exact below_new' _ _ | refine bdN ?_ _ | refine Below.drew ?_)⟩
        · have e3 : decide (ae < 0) = false := decide_eq_false g3
          have e4 : decide (2100000000000000000 < ae) = true := decide_eq_true (by rcases c3 with h | h | h | h; exact absurd h g1; exact absurd h g2; exact absurd h g3; exact h)
          clear c3 g1 g2 g3
          go_enter Tryz.func81, Tryz.ntmps81
          go_wp2_with (first| (go_at_call 139; (with_reducible refine Calls.mono (HEF.out _ (by repeat (first | exact below_new' _ _ | refine bdN ?_ _ | refine Below.drew ?_))) ?_); rintro e w1 ⟨rfl, hb1⟩; have B1 : Hid (Below w.heap.size w w1) := btr (by repeat (first | exact below_new' _ _ | refine bdN ?_ _ | refine Below.drew ?_)) hb1; have KA1 : w1.heap[w.heap.size]? = some (.cells #[.string af, .string ad, .int .i64 aa, .int .i64 ax, .int .i64 al, .int .i64 ae, .slice ob bad.length cb] 45 (0, 0)) := (hb1.block _ (by simp)).trans (heap_alloc_at _ _); obtain ⟨a0, a1, a2, a3, a4, a5, a6⟩ := ask_cells45 KA1; have KK := Lib.hid KA1; clear hb1 KA1)| (go_at_call 139; (with_reducible refine Calls.mono (HED.out _ B1.out) ?_); rintro e w2 ⟨rfl, hb2⟩; have B2 : Hid (Below w.heap.size w w2) := btr B1.out hb2; have KA2 : w2.heap[w.heap.size]? = some (.cells #[.string af, .string ad, .int .i64 aa, .int .i64 ax, .int .i64 al, .int .i64 ae, .slice ob bad.length cb] 45 (0, 0)) := (hb2.block _ (lt_of_heap KK.out)).trans KK.out; obtain ⟨b0, b1, b2, b3, b4, b5, b6⟩ := ask_cells45 KA2; clear hb2 KA2)| (go_at_call 140; (with_reducible refine Calls.mono (time_any _ _) ?_); rintro e w3 ⟨rfl, rfl⟩))
          go_ret
          exact ⟨rfl, by repeat (first | exact B2.out | exact B1.out | exact below_new' _ _ | refine bdN ?_ _ | refine Below.drew ?_)⟩
  have e1 : decide (aa < 1) = false := decide_eq_false (by omega)
  have e2 : decide (2100000000000000000 < aa) = false := decide_eq_false (by omega)
  have e3 : decide (ae < 0) = false := decide_eq_false (by omega)
  have e4 : decide (2100000000000000000 < ae) = false := decide_eq_false (by omega)
  have hz : earlyN E P ⟨af, ad, aa, ax, al, ae, bad⟩ = 0 := by unfold earlyN; rw [if_neg c1, if_neg c2, if_neg c3]
  rw [hz, if_neg (by decide)] at hr
  have HR := Lib.hid hr
  clear hr hz c1 c2 c3 hl1 hl2 k1 k2
  go_enter Tryz.func81, Tryz.ntmps81
  go_wp2_with (first| (go_at_call 139; (with_reducible refine Calls.mono (HEF.out _ (by repeat (first | exact below_new' _ _ | refine bdN ?_ _ | refine Below.drew ?_))) ?_); rintro e w1 ⟨rfl, hb1⟩; have B1 : Hid (Below w.heap.size w w1) := btr (by repeat (first | exact below_new' _ _ | refine bdN ?_ _ | refine Below.drew ?_)) hb1; have KA1 : w1.heap[w.heap.size]? = some (.cells #[.string af, .string ad, .int .i64 aa, .int .i64 ax, .int .i64 al, .int .i64 ae, .slice ob bad.length cb] 45 (0, 0)) := (hb1.block _ (by simp)).trans (heap_alloc_at _ _); obtain ⟨a0, a1, a2, a3, a4, a5, a6⟩ := ask_cells45 KA1; have KK := Lib.hid KA1; clear hb1 KA1)| (go_at_call 139; (with_reducible refine Calls.mono (HED.out _ B1.out) ?_); rintro e w2 ⟨rfl, hb2⟩; have B2 : Hid (Below w.heap.size w w2) := btr B1.out hb2; have KA2 : w2.heap[w.heap.size]? = some (.cells #[.string af, .string ad, .int .i64 aa, .int .i64 ax, .int .i64 al, .int .i64 ae, .slice ob bad.length cb] 45 (0, 0)) := (hb2.block _ (lt_of_heap KK.out)).trans KK.out; obtain ⟨b0, b1, b2, b3, b4, b5, b6⟩ := ask_cells45 KA2; clear hb2 KA2)| (go_at_call 140; (with_reducible refine Calls.mono (time_any _ _) ?_); rintro e w3 ⟨rfl, rfl⟩))
  clear a0 a1 a2 a3 a4 a5 a6 b0 b1 b2 b3 b4 b5 b6 KK B1 d1 d2 d3 e1 e2 e3 e4 q1 t1 t2 HEF HED
  go_loopw [7] (fun iv wr => ∃ i : Nat, i ≤ P.length ∧ iv = .int .i64 i ∧ Hid (Below w.heap.size w wr) ∧ Hid ((P.take i).any plcBad = false)) (fun iv _ => P.length - (intOf iv).toNat)
  case atStart => exact ⟨0, Nat.zero_le _, rfl, B2.out, rfl⟩
  case round =>
    clear B2
    obtain ⟨i, hi, rfl, hB, hN⟩ := hrel
    have hi2 := HL2.out
    by_cases hlt : i < P.length
    · obtain ⟨p, hp⟩ : ∃ p, P[i]? = some p := ⟨_, List.getElem?_eq_getElem hlt⟩
      obtain ⟨lb, lf, rfl, hc⟩ := rows_at HPP.out hp
      have HPM := Lib.hid (List.mem_of_getElem? hp)
      have z0 : wr.cell? ⟨lb, lf + i * 9, none⟩ = some (.string p.chan) := cell_later' hB.out (hc 0 _ rfl)
      have z1 : wr.cell? ⟨lb, lf + i * 9 + 1, none⟩ = some (.string p.frm) := cell_later' hB.out (hc 1 _ rfl)
      have z2 : wr.cell? ⟨lb, lf + i * 9 + 2, none⟩ = some (.int .i64 p.stamp) := cell_later' hB.out (hc 2 _ rfl)
      have z3 : wr.cell? ⟨lb, lf + i * 9 + 3, none⟩ = some (.int .i64 p.base) := cell_later' hB.out (hc 3 _ rfl)
      have z4 : wr.cell? ⟨lb, lf + i * 9 + 4, none⟩ = some (.int .i64 p.rate) := cell_later' hB.out (hc 4 _ rfl)
      have z5 : wr.cell? ⟨lb, lf + i * 9 + 5, none⟩ = some (.int .i64 p.delta) := cell_later' hB.out (hc 5 _ rfl)
      have z6 : wr.cell? ⟨lb, lf + i * 9 + 6, none⟩ = some (.int .i64 p.min) := cell_later' hB.out (hc 6 _ rfl)
      have z7 : wr.cell? ⟨lb, lf + i * 9 + 7, none⟩ = some (.int .i64 p.max) := cell_later' hB.out (hc 7 _ rfl)
      have z8 : wr.cell? ⟨lb, lf + i * 9 + 8, none⟩ = some (.bool p.off) := cell_later' hB.out (hc 8 _ rfl)
      have hii : (i : Int) < (P.length : Int) := by omega
      have hii2 : (P.length : Int) ≤ 512 := by omega
      have HBD : Hid (plcBad p = true → out = 2) := fun h => by rw [HR.out, if_pos (List.any_eq_true.2 ⟨p, HPM.out, h⟩)]
      have HST : Hid (plcBad p = false → (P.take (i + 1)).any plcBad = false) := fun h => by rw [any_take _ hp, hN.out, h]; rfl
      have hdef : plcBad p = decide (p.base < 0 ∨ p.rate < 0 ∨ p.min < 0 ∨ p.max < 0 ∨ ¬ (0 ≤ p.delta ∧ p.delta < 2147483648)) := rfl
      have HDF := Lib.hid hdef
      have hbW := Lib.hid (btr hB.out (below_new' wr (.cells #[.string p.chan, .string p.frm, .int .i64 p.stamp, .int .i64 p.base, .int .i64 p.rate, .int .i64 p.delta, .int .i64 p.min, .int .i64 p.max, .bool p.off] 53)))
      clear hc hi hi2 hp hdef
      by_cases g1 : p.base < 0
      · have f1 : decide (p.base < 0) = true := decide_eq_true g1
        have ho : out = 2 := HBD.out (by rw [HDF.out]; exact decide_eq_true (.inl g1))
        subst ho
        clear g1
        go_wp2_with (go_at_call 140; (with_reducible refine Calls.mono (time_any _ _) ?_); rintro e w3 ⟨rfl, rfl⟩)
        go_ret
        exact ⟨rfl, hbW.out⟩
      · have f1 : decide (p.base < 0) = false := decide_eq_false g1
        by_cases g2 : p.rate < 0
        · have f2 : decide (p.rate < 0) = true := decide_eq_true g2
          have ho : out = 2 := HBD.out (by rw [HDF.out]; exact decide_eq_true (.inr (.inl g2)))
          subst ho
          clear g1 g2
          go_wp2_with (go_at_call 140; (with_reducible refine Calls.mono (time_any _ _) ?_); rintro e w3 ⟨rfl, rfl⟩)
          go_ret
          exact ⟨rfl, hbW.out⟩
        · have f2 : decide (p.rate < 0) = false := decide_eq_false g2
          by_cases g3 : p.min < 0
          · have f3 : decide (p.min < 0) = true := decide_eq_true g3
            have ho : out = 2 := HBD.out (by rw [HDF.out]; exact decide_eq_true (.inr (.inr (.inl g3))))
            subst ho
            clear g1 g2 g3
            go_wp2_with (go_at_call 140; (with_reducible refine Calls.mono (time_any _ _) ?_); rintro e w3 ⟨rfl, rfl⟩)
            go_ret
            exact ⟨rfl, hbW.out⟩
          · have f3 : decide (p.min < 0) = false := decide_eq_false g3
            by_cases g4 : p.max < 0
            · have f4 : decide (p.max < 0) = true := decide_eq_true g4
              have ho : out = 2 := HBD.out (by rw [HDF.out]; exact decide_eq_true (.inr (.inr (.inr (.inl g4)))))
              subst ho
              clear g1 g2 g3 g4
              go_wp2_with (go_at_call 140; (with_reducible refine Calls.mono (time_any _ _) ?_); rintro e w3 ⟨rfl, rfl⟩)
              go_ret
              exact ⟨rfl, hbW.out⟩
            · have f4 : decide (p.max < 0) = false := decide_eq_false g4
              cases f5 : timeB p.delta with
              | false =>
                have ho : out = 2 := HBD.out (by rw [HDF.out]; exact decide_eq_true (.inr (.inr (.inr (.inr (fun h => by rw [(time_iff _).2 h] at f5; cases f5))))))
                subst ho
                clear g1 g2 g3 g4
                go_wp2_with (go_at_call 140; (with_reducible refine Calls.mono (time_any _ _) ?_); rintro e w3 ⟨rfl, rfl⟩)
                go_ret
                exact ⟨rfl, hbW.out⟩
              | true =>
                have HS2 := Lib.hid (HST.out (by rw [HDF.out]; exact decide_eq_false (by rintro (h | h | h | h | h); exact g1 h; exact g2 h; exact g3 h; exact g4 h; exact h ((time_iff _).1 f5))))
                clear g1 g2 g3 g4
                go_wp2_with (go_at_call 140; (with_reducible refine Calls.mono (time_any _ _) ?_); rintro e w3 ⟨rfl, rfl⟩)
                go_roundw
                case rel => exact ⟨i + 1, hlt, by rw [Int.natCast_succ], hbW.out, HS2.out⟩
                case measure => simp only [intOf]; omega
    · obtain rfl : i = P.length := by omega
      have hPB : P.any plcBad = false := by have := hN.out; rwa [List.take_length] at this
      have HR2 : Hid (out = if E.any edgBad = true then 2 else 0) := by show _ = _; rw [HR.out, hPB]; rfl
      clear hPB hi hi2 hlt hN HR
      go_wp2_with fail
      go_loopw [9] (fun iv wr => ∃ i : Nat, i ≤ E.length ∧ iv = .int .i64 i ∧ Hid (Below w.heap.size w wr) ∧ Hid ((E.take i).any edgBad = false)) (fun iv _ => E.length - (intOf iv).toNat)
      case atStart => exact ⟨0, Nat.zero_le _, rfl, hB.out, rfl⟩
      case round =>
        clear hB
        obtain ⟨i, hi, rfl, hB, hN⟩ := hrel
        have hi2 := HL1.out
        by_cases hlt : i < E.length
        · obtain ⟨p, hp⟩ : ∃ p, E[i]? = some p := ⟨_, List.getElem?_eq_getElem hlt⟩
          obtain ⟨lb, lf, rfl, hc⟩ := rows_at HEE.out hp
          have HPM := Lib.hid (List.mem_of_getElem? hp)
          have z3 : wr.cell? ⟨lb, lf + i * 4 + 3, none⟩ = some (.int .i64 p.cap) := cell_later' hB.out (hc 3 _ rfl)
          have hii : (i : Int) < (E.length : Int) := by omega
          have hii2 : (E.length : Int) ≤ 256 := by omega
          have HBD : Hid (edgBad p = true → out = 2) := fun h => by rw [HR2.out, if_pos (List.any_eq_true.2 ⟨p, HPM.out, h⟩)]
          have HST : Hid (edgBad p = false → (E.take (i + 1)).any edgBad = false) := fun h => by rw [any_take _ hp, hN.out, h]; rfl
          have hdef : edgBad p = decide (p.cap < 0 ∨ 2100000000000000 < p.cap) := rfl
          have HDF := Lib.hid hdef
          clear hc hi hi2 hp hdef
          by_cases g1 : p.cap < 0
          · have f1 : decide (p.cap < 0) = true := decide_eq_true g1
            have ho : out = 2 := HBD.out (by rw [HDF.out]; exact decide_eq_true (.inl g1))
            subst ho
            clear g1
            go_wp2_with fail
            go_ret
            exact ⟨rfl, hB.out⟩
          · have f1 : decide (p.cap < 0) = false := decide_eq_false g1
            by_cases g2 : 2100000000000000 < p.cap
            · have f2 : decide (2100000000000000 < p.cap) = true := decide_eq_true g2
              have ho : out = 2 := HBD.out (by rw [HDF.out]; exact decide_eq_true (.inr g2))
              subst ho
              clear g1 g2
              go_wp2_with fail
              go_ret
              exact ⟨rfl, hB.out⟩
            · have f2 : decide (2100000000000000 < p.cap) = false := decide_eq_false g2
              have HS2 := Lib.hid (HST.out (by rw [HDF.out]; exact decide_eq_false (by rintro (h | h); exact g1 h; exact g2 h)))
              clear g1 g2
              go_wp2_with fail
              go_roundw
              case rel => exact ⟨i + 1, hlt, by rw [Int.natCast_succ], hB.out, HS2.out⟩
              case measure => simp only [intOf]; omega
        · obtain rfl : i = E.length := by omega
          have ho : out = 0 := by
            have := hN.out
            rw [List.take_length] at this
            rw [HR2.out, this]; rfl
          subst ho
          clear hi hi2 hlt hN
          go_wp2_with fail
          go_ret
          exact ⟨rfl, hB.out⟩
end Go.Proofs.YtbdimlppnhcicaaGreatDoor
/- route: the document's Find, its parts -/
namespace Go.Proofs.YtbdimlppnhcicaaGreatDoor
set_option linter.unusedVariables false
open Go.RowKit Rte
/-! route: the document's Find, its parts -/
def edgV (e : Edg) : Value := .agg #[.string e.chan, .string e.a, .string e.b, .int .i64 e.cap]
set_option maxRecDepth 100000 in
set_option maxHeartbeats 4000000 in
theorem ends_any (e : Edg) (j : Nat) (w : World) : Calls Tryz.prog 83 #[edgV e, .int .i64 (j : Int)] w fun ee w' => ee = .returned (.tuple #[.string (wayE e j).frm, .string (wayE e j).dst]) ∧ Below w.heap.size w w' := by
  obtain ⟨ch, a, b, cap⟩ := e
  show Calls Tryz.prog 83 #[.agg #[.string ch, .string a, .string b, .int .i64 cap], .int .i64 (j : Int)] w fun ee w' => ee = .returned (.tuple #[.string (wayE ⟨ch, a, b, cap⟩ j).frm, .string (wayE ⟨ch, a, b, cap⟩ j).dst]) ∧ Below w.heap.size w w'
  by_cases hj : j = 0
  · have e1 : ((j : Int) == 0) = true := by simp [hj]
    have h1 : wayE ⟨ch, a, b, cap⟩ j = ⟨ch, cap, a, b⟩ := by unfold wayE; rw [if_pos hj]
    rw [h1]
    have B := Lib.hid (below_new' w (.cells #[.string ch, .string a, .string b, .int .i64 cap] 51))
    clear hj h1
    go_enter Tryz.func83, Tryz.ntmps83
    go_wp2_with fail
    go_quiet (fail)
    go_wp2_with fail
    go_ret2
    exact ⟨rfl, bdN B.out _⟩
  · have e1 : ((j : Int) == 0) = false := by simp; omega
    have h1 : wayE ⟨ch, a, b, cap⟩ j = ⟨ch, cap, b, a⟩ := by unfold wayE; rw [if_neg hj]
    rw [h1]
    have B := Lib.hid (below_new' w (.cells #[.string ch, .string a, .string b, .int .i64 cap] 51))
    clear hj h1
    go_enter Tryz.func83, Tryz.ntmps83
    go_wp2_with fail
    go_quiet (fail)
    go_wp2_with fail
    go_ret2
    exact ⟨rfl, bdN B.out _⟩
/-- needs, as they lie in a row -/
structure NeedsAt (B n : Nat) (o : Option Addr) (N : List Nd) (W : World) : Prop where
  at_ : NdsAt o N W
  new : ∀ t ∈ N, t.e.hops ≠ [] → NewA B t.o
  ok : ∀ t ∈ N, EnOk t.e ∧ t.e.hops.length ≤ n
  nd : (N.map (·.node)).Nodup
theorem NeedsAt.below {B n : Nat} {o : Option Addr} {N : List Nd} {W W' : World} (h : NeedsAt B n o N W) (hb : Below W.heap.size W W') : NeedsAt B n o N W' := ⟨h.at_.below hb, h.new, h.ok, h.nd⟩
theorem NeedsAt.weak {B n m : Nat} {o : Option Addr} {N : List Nd} {W : World} (h : NeedsAt B n o N W) (hm : n ≤ m) : NeedsAt B m o N W := ⟨h.at_, h.new, fun t ht => ⟨(h.ok t ht).1, Nat.le_trans (h.ok t ht).2 hm⟩, h.nd⟩
theorem node_pair (N : List Nd) : N.map (·.node) = keysR (N.map pairN) := by unfold keysR; rw [List.map_map]; rfl
theorem put_len (l : List (ByteArray × En)) (t : ByteArray) (x : En) : (putR l t x).length ≤ l.length + 1 := by
  induction l with
  | nil => simp [putR]
  | cons p l ih =>
    obtain ⟨n, y⟩ := p
    unfold putR
    split
    · simp
    · simp only [List.length_cons]; omega
theorem step_len (P : List Plc) (A : AskR) (prev next : List (ByteArray × En)) (w : Rte.Way) : (stepW P A prev next w).length ≤ next.length + 1 := by
  unfold stepW
  cases candW P A prev w with
  | none => exact Nat.le_succ _
  | some x => exact put_len _ _ _
theorem fold_lenW (P : List Plc) (A : AskR) (prev : List (ByteArray × En)) : ∀ (W : List Rte.Way) (next : List (ByteArray × En)), (W.foldl (stepW P A prev) next).length ≤ next.length + W.length
  | [], _ => Nat.le_refl _
  | w :: W, next => by
    rw [List.foldl_cons, List.length_cons]
    have h1 := fold_lenW P A prev W (stepW P A prev next w)
    have h2 := step_len P A prev next w
    omega
theorem fold_lenK (P : List Plc) (w : Rte.Way) : ∀ (l next : List (ByteArray × En)), (l.foldl (stepK P w) next).length ≤ next.length + l.length
  | [], _ => Nat.le_refl _
  | t :: l, next => by
    rw [List.foldl_cons, List.length_cons]
    have h1 := fold_lenK P w l (stepK P w next t)
    have h2 : (stepK P w next t).length ≤ next.length + 1 := by
      unfold stepK
      split
      · cases givesW P w t.2 with
        | none => exact Nat.le_succ _
        | some x => exact put_len _ _ _
      · exact Nat.le_succ _
    omega
theorem reach_len (P : List Plc) (A : AskR) (W : List Rte.Way) (n : Nat) : (reachN P A W n).length ≤ 1 + W.length := by
  cases n with
  | zero => simp [reachN]
  | succ n => exact fold_lenW P A _ W _
/-- one need more, if it is the best of its node -/
theorem NeedsAt.put {B n : Nat} {o o' : Option Addr} {N : List Nd} {x : Nd} {W W' : World} (h : NeedsAt B n o N W) (hx : NdsAt o' (putNd N x) W') (hn : x.e.hops ≠ [] → NewA B x.o) (hk : EnOk x.e ∧ x.e.hops.length ≤ n) : NeedsAt B n o' (putNd N x) W' := by
  refine ⟨hx, fun t ht => ?_, fun t ht => ?_, ?_⟩
  · rcases mem_putNd ht with h1 | rfl
    · exact h.new t h1
    · exact hn
  · rcases mem_putNd ht with h1 | rfl
    · exact h.ok t h1
    · exact hk
  · rw [node_pair, put_pair x N h.nd]
    have := h.nd
    rw [node_pair] at this
    exact nodup_put _ _ _ this
/-- what is known while the document finds -/
structure DfS (w : World) (ask : Array Value) (sb : Nat) (st : Array Value) (W : World) : Prop where
  bel : Below w.heap.size w W
  box : W.heap[w.heap.size]? = some (.cells ask 45 (0, 0))
  st_ : W.heap[sb]? = some (.cells st 151 (0, 0))
theorem DfS.next {w : World} {ask : Array Value} {sb : Nat} {st : Array Value} {W W' : World} (h : DfS w ask sb st W) (hb : Below W.heap.size W W') : DfS w ask sb st W' :=
  ⟨btr h.bel hb, (hb.block _ (lt_of_heap h.box)).trans h.box, (hb.block _ (lt_of_heap h.st_)).trans h.st_⟩
theorem ask_at45 {A : AskR} {ob : Option Addr} {bl cb k : Nat} {W : World} (h : W.heap[k]? = some (.cells (askC A ob bl cb) 45 (0, 0))) : W.cell? ⟨k, 0, none⟩ = some (.string A.frm) ∧ W.cell? ⟨k, 1, none⟩ = some (.string A.dst) ∧ W.cell? ⟨k, 2, none⟩ = some (.int .i64 A.amt) ∧ W.cell? ⟨k, 3, none⟩ = some (.int .i64 A.exp) ∧ W.cell? ⟨k, 4, none⟩ = some (.int .i64 A.latest) ∧ W.cell? ⟨k, 5, none⟩ = some (.int .i64 A.fee) ∧ W.cell? ⟨k, 6, none⟩ = some (.slice ob bl cb) ∧ k < W.heap.size := by
  obtain ⟨a0, a1, a2, a3, a4, a5, a6⟩ := ask_cells45 h
  exact ⟨a0, a1, a2, a3, a4, a5, a6, lt_of_heap h⟩
def DFindPost (r : List Hp × Int) (w : World) (e : Ending) (w' : World) : Prop :=
  Below w.heap.size w w' ∧ ∃ o c, e = .returned (.tuple #[.slice o r.1.length c, .int .i64 r.2]) ∧ RowsAt 4 hpC o r.1 w' ∧ (r.1 ≠ [] → NewA w.heap.size o)
set_option maxRecDepth 100000 in
set_option maxHeartbeats 8000000 in
theorem dfind_no (oe : Option Addr) (E : List Edg) (ce : Nat) (op : Option Addr) (P : List Plc) (cp : Nat) (A : AskR) (ob : Option Addr) (cb : Nat) (w : World) (hs1 : A.frm.size ≤ maxLen) (hs2 : A.dst.size ≤ maxLen)
    (hE : RowsAt 4 edgC oe E w) (hP : RowsAt 9 plcC op P w) (h0 : refusedN isKey E P A ≠ 0) : Calls Tryz.prog 21 #[.slice oe E.length ce, .slice op P.length cp, askV A ob cb] w (DFindPost (findN isKey E P A) w) := by
  have hf : findN isKey E P A = ([], refusedN isKey E P A) := by unfold findN; rw [if_pos h0]
  rw [hf]
  have HN := Lib.hid (fun W (h : Below w.heap.size w W) => refused_any oe E ce op P cp A ob cb W hs1 hs2 (hE.below h) (hP.below h))
  obtain ⟨af, ad, aa, ax, al, ae, bad⟩ := A
  unfold askV at HN ⊢
  dsimp only at HN ⊢
  obtain ⟨c, hc⟩ : ∃ c, refusedN isKey E P ⟨af, ad, aa, ax, al, ae, bad⟩ = c := ⟨_, rfl⟩
  rw [hc] at h0 HN ⊢
  have e1 : (c != 0) = true := by simpa using h0
  clear hc h0 hf hE hP hs1 hs2
  go_enter Tryz.func21, Tryz.ntmps21
  go_wp2_with ((go_at_call 81; (with_reducible refine Calls.mono (HN.out _ (below_new' _ _)) ?_); rintro e w1 ⟨rfl, hb1⟩; have B1 : Hid (Below w.heap.size w w1) := btr (below_new' _ _) hb1; clear hb1))
  go_ret2
  exact ⟨B1.out, _, _, rfl, .inl rfl, fun h => absurd rfl h⟩
end Go.Proofs.YtbdimlppnhcicaaGreatDoor
