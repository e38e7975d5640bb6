import Derived.Deep.RegionHeld3
import Derived.StillTailTactics
import Derived.Lib.ParseIntB
import Derived.Lib.Bytealg
import Derived.Lib.ItoaNum
import Derived.Lib.ParseIntBCases
import Derived.Shelf.Strings.Builder1
import Derived.Shelf.Small.Bits
import Derived.Shelf.Small.Strs
import Derived.Shelf.Small.Wraps
import Derived.Shelf.Strings.BuilderF
import Derived.Shelf.Strings.BuilderK
import Derived.Shelf.Strconv.Itoa0
import Derived.Shelf.Strconv.Itoa1
import Derived.Shelf.LaysM
import Derived.Shelf.Strconv.Itoa2
import Derived.Shelf.Strconv.Itoa3
import Derived.Shelf.Strconv.Itoa4
import Derived.Shelf.Strconv.ParseIntEmpty
import Derived.Shelf.Strconv.Clone
import Derived.Shelf.Strconv.SyntaxError
import Derived.Shelf.LaysC
import Derived.Shelf.Strconv.ToError
import Derived.Shelf.Strconv.Lower
import Derived.Shelf.Strconv.ParseUint10
import Derived.Shelf.Strconv.ParseUint10Empty
import Derived.Shelf.Strconv.ParseUint10Any
import Derived.Shelf.Strconv.ParseInt10
import Derived.Shelf.Strconv.RangeError
import Derived.Shelf.Strconv.ToErrorRange
import Derived.Shelf.Strconv.ParseUintEmpty
import Derived.Shelf.Strconv.ParseUint10b64
import Derived.Shelf.Strconv.ParseUint10b32
import Derived.Shelf.Strconv.ParseUint10b16
import Derived.Shelf.Strconv.ParseUint10b8
import Derived.Shelf.Strconv.ParseUint10At
import Derived.Shelf.Strconv.ParseInt10At64
import Derived.Shelf.Strconv.ParseInt10At32
import Derived.Shelf.Strconv.ParseInt10At16
import Derived.Shelf.Strconv.ParseInt10At8
import Derived.Shelf.Strconv.ParseInt10All
import Derived.Shelf.Strconv.ParseIntPublic10
import Derived.Shelf.Strconv.ErrVarParseInt
import Derived.Shelf.Strings.Search1
import Derived.Shelf.Bits.Mul64
import Derived.Shelf.Strings.BuilderCap
import Derived.Ground.Names2Prog
import Derived.Shelf.Slices.Clone
import Derived.Shelf.Slices.SearchI
import Derived.Ground.SlgnProg
import Derived.Shelf.SlicesE.Clone
import Derived.WalkKit
import Derived.WalkSpells
import Derived.WalkLawsBesides
import Derived.Handy
import Derived.Lib.Hide
import Derived.Deep.QuietTactic
import Derived.BigQuiet
import Derived.Lib.Strings
import Derived.Lib.IndexBytes
import Derived.BigRegion
import Derived.Deep.RegionLaw
import Derived.Deep.AppendLies
import Derived.Deep.LoopGhost
import Derived.Deep.Onto
import Derived.Deep.WholeRow
import Derived.Deep.CutRange
import Derived.Laws.CopyOwn
import Derived.Lib.ItoaLen
import Derived.Lib.AppendIntMem
import Derived.Deep.CutBlock
import Derived.Deep.MidRow
import Derived.Deep.RegionHeld
import Derived.Outline
import Derived.Laws.Tables
import Derived.Laws.MakeOwn
import Derived.Laws.OwnMore
import Derived.WalkMore
import Derived.MapKept
import Derived.Carry
import Derived.Test.YtbdimlppnhcicaaGreatDoorRows
import Derived.Test.YtbdimlppnhcicaaGreatDoorProg
import Derived.Test.YtbdimlppnhcicaaGreatDoorNu
import Derived.Test.YtbdimlppnhcicaaGreatDoorTa
import Derived.Test.YtbdimlppnhcicaaGreatDoorRg
import Derived.Test.YtbdimlppnhcicaaGreatDoorBa
import Derived.Test.YtbdimlppnhcicaaGreatDoorRefI
import Derived.Test.YtbdimlppnhcicaaGreatDoorWg
import Derived.Test.YtbdimlppnhcicaaGreatDoorSo
import Derived.Test.YtbdimlppnhcicaaGreatDoorOnA
import Derived.Test.YtbdimlppnhcicaaGreatDoorOb
import Derived.Test.YtbdimlppnhcicaaGreatDoorOe
import Derived.Test.YtbdimlppnhcicaaGreatDoorRo1
import Derived.Test.YtbdimlppnhcicaaGreatDoorOf
import Derived.Test.YtbdimlppnhcicaaGreatDoorOh
import Derived.Test.YtbdimlppnhcicaaGreatDoorOj
import Derived.Test.YtbdimlppnhcicaaGreatDoorRo2
import Derived.Test.YtbdimlppnhcicaaGreatDoorRo3
import Derived.Test.YtbdimlppnhcicaaGreatDoorRo4
import Derived.Test.YtbdimlppnhcicaaGreatDoorRo5
import Derived.Test.YtbdimlppnhcicaaGreatDoorRo7
import Derived.Test.YtbdimlppnhcicaaGreatDoorRo6
import Derived.Test.YtbdimlppnhcicaaGreatDoorRo8
import Derived.Test.YtbdimlppnhcicaaGreatDoorRtZ
import Derived.Test.YtbdimlppnhcicaaGreatDoorRu1
import Derived.Test.YtbdimlppnhcicaaGreatDoorRu2
import Derived.Test.YtbdimlppnhcicaaGreatDoorRuQ
namespace Go.Proofs.YtbdimlppnhcicaaGreatDoor
set_option linter.unusedVariables false
open Go.RowKit Rte
/-! route: RouteFinds, walked -/
theorem dfind_any (oe : Option Addr) (E : List Edg) (ce : Nat) (op : Option Addr) (P : List Plc) (cp : Nat) (A : AskR) (ob : Option Addr) (cb : Nat) (w : World) (hs1 : A.frm.size ≤ maxLen) (hs2 : A.dst.size ≤ maxLen)
    (hE : RowsAt 4 edgC oe E w) (hP : RowsAt 9 plcC op P w) (hB : StrsAt ob A.bad w) : Calls Tryz.prog 21 #[.slice oe E.length ce, .slice op P.length cp, askV A ob cb] w (DFindPost (findN isKey E P A) w) := by
  by_cases h0 : refusedN isKey E P A = 0
  · exact dfind_yes oe E ce op P cp A ob cb w hs1 hs2 hE hP hB h0
  · exact dfind_no oe E ce op P cp A ob cb w hs1 hs2 hE hP h0
theorem Tryz.info51 : (Tryz.prog.info? 51).map (fun i => (i.zero, i.size, i.bytes)) = some (some (.agg #[.string ⟨#[]⟩, .string ⟨#[]⟩, .string ⟨#[]⟩, .int .i64 0]), 4, 56) := by kernel_rfl
theorem Tryz.info53 : (Tryz.prog.info? 53).map (fun i => (i.zero, i.size, i.bytes)) = some (some (.agg #[.string ⟨#[]⟩, .string ⟨#[]⟩, .int .i64 0, .int .i64 0, .int .i64 0, .int .i64 0, .int .i64 0, .int .i64 0, .bool false]), 9, 88) := by kernel_rfl
theorem Tryz.info9s : (Tryz.prog.info? 9).map (fun i => (i.zero, i.size, i.bytes)) = some (some (.string ⟨#[]⟩), 1, 16) := by kernel_rfl
theorem edgC_one (x : Edg) : ∀ u ∈ edgC x, u.oneCell' = true := by
  intro u hu
  simp only [edgC, List.mem_cons, List.not_mem_nil, or_false] at hu
  rcases hu with rfl | rfl | rfl | rfl <;> rfl
theorem plcC_one (x : Plc) : ∀ u ∈ plcC x, u.oneCell' = true := by
  intro u hu
  simp only [plcC, List.mem_cons, List.not_mem_nil, or_false] at hu
  rcases hu with rfl | rfl | rfl | rfl | rfl | rfl | rfl | rfl | rfl <;> rfl
def strC (s : ByteArray) : List Value := [.string s]
theorem strC_len (s : ByteArray) : (strC s).length = 1 := rfl
theorem strC_one (x : ByteArray) : ∀ u ∈ strC x, u.oneCell' = true := by
  intro u hu
  obtain rfl : u = .string x := by simpa [strC] using hu
  rfl
theorem strs_rows {o : Option Addr} {l : List ByteArray} {W : World} (h : StrsAt o l W) : RowsAt 1 strC o l W := by
  rcases h with h | ⟨b, off, e, hc⟩
  · exact .inl h
  · refine .inr ⟨b, off, e, fun k x hx j v hv => ?_⟩
    cases j with
    | zero => cases hv; have := hc k x hx; simpa using this
    | succ j => simp [strC] at hv
theorem rows_strs {o : Option Addr} {l : List ByteArray} {W : World} (h : RowsAt 1 strC o l W) : StrsAt o l W := by
  rcases h with h | ⟨b, off, e, hc⟩
  · exact .inl h
  · exact .inr ⟨b, off, e, fun k x hx => by have := hc k x hx 0 _ rfl; simpa using this⟩
theorem rows_lt {α : Type} {n : Nat} {cells : α → List Value} (hn : 0 < n) (hcl : ∀ x, (cells x).length = n) {o : Option Addr} {l : List α} {W : World} (h : RowsAt n cells o l W) : ∀ b off, o = some ⟨b, off, none⟩ → l ≠ [] → b < W.heap.size := by
  rintro b off rfl hl
  rcases h with h | ⟨b', off', e, hc⟩
  · exact absurd h hl
  · cases e
    obtain ⟨x, l', rfl⟩ := List.exists_cons_of_ne_nil hl
    have h0 := hc 0 x rfl 0 _ (List.getElem?_eq_getElem (by rw [hcl]; exact hn))
    exact World.block_lt_of_cell? W _ h0
/-- what is known while the law looks at what was found -/
structure FnS (w : World) (net ask inn : Array Value) (ib : Nat) (E : List Edg) (P : List Plc) (bad : List ByteArray) (oe op ob : Option Addr) (W : World) : Prop where
  bel : Below w.heap.size w W
  net : W.heap[w.heap.size]? = some (.cells net 36 (0, 0))
  ask : W.heap[w.heap.size + 1]? = some (.cells ask 39 (0, 0))
  inn : W.heap[ib]? = some (.cells inn 39 (0, 0))
  e : RowsAt 4 edgC oe E W
  p : RowsAt 9 plcC op P W
  b : StrsAt ob bad W
theorem FnS.next {w : World} {net ask inn : Array Value} {ib : Nat} {E : List Edg} {P : List Plc} {bad : List ByteArray} {oe op ob : Option Addr} {W W' : World} (h : FnS w net ask inn ib E P bad oe op ob W) (hb : Below W.heap.size W W') : FnS w net ask inn ib E P bad oe op ob W' :=
  ⟨btr h.bel hb, (hb.block _ (lt_of_heap h.net)).trans h.net, (hb.block _ (lt_of_heap h.ask)).trans h.ask, (hb.block _ (lt_of_heap h.inn)).trans h.inn, h.e.below hb, h.p.below hb, h.b.below hb⟩
/-- so is it when a block has turned that none of it lies in -/
theorem FnS.fr {w : World} {net ask inn : Array Value} {ib g : Nat} {E : List Edg} {P : List Plc} {bad : List ByteArray} {oe op ob : Option Addr} {W0 W W' : World} (h0 : FnS w net ask inn ib E P bad oe op ob W0) (hg : W0.heap.size ≤ g) (h : FnS w net ask inn ib E P bad oe op ob W) (hF : Fr (fun i => i = g) W W') : FnS w net ask inn ib E P bad oe op ob W' := by
  have l0 := lt_of_heap h0.net
  have l1 := lt_of_heap h0.ask
  have l2 := lt_of_heap h0.inn
  exact ⟨below_fr h.bel hF (by omega) h.bel.size, (hF.block _ (lt_of_heap h.net) (by omega)).trans h.net, (hF.block _ (lt_of_heap h.ask) (by omega)).trans h.ask, (hF.block _ (lt_of_heap h.inn) (by omega)).trans h.inn,
    rows_fr h.e (fun b off e hl => by have := rows_lt (by omega) edgC_len h0.e b off e hl; omega) hF, rows_fr h.p (fun b off e hl => by have := rows_lt (by omega) plcC_len h0.p b off e hl; omega) hF,
    rows_strs (rows_fr (strs_rows h.b) (fun b off e hl => by have := rows_lt (by omega) strC_len (strs_rows h0.b) b off e hl; omega) hF)⟩
theorem keep9 {w W : World} {b c : Nat} {u0 u1 v0 v1 v2 v3 v4 v5 v6 : Value} (hb : Below w.heap.size w W) (h : (w.cell? ⟨b, 0, none⟩ = some u0 ∧ w.cell? ⟨b, 1, none⟩ = some u1) ∧ w.cell? ⟨c, 0, none⟩ = some v0 ∧ w.cell? ⟨c, 1, none⟩ = some v1 ∧ w.cell? ⟨c, 2, none⟩ = some v2 ∧ w.cell? ⟨c, 3, none⟩ = some v3 ∧ w.cell? ⟨c, 4, none⟩ = some v4 ∧ w.cell? ⟨c, 5, none⟩ = some v5 ∧ w.cell? ⟨c, 6, none⟩ = some v6) :
    Below w.heap.size w W ∧ W.cell? ⟨b, 0, none⟩ = some u0 ∧ W.cell? ⟨b, 1, none⟩ = some u1 ∧ W.cell? ⟨c, 0, none⟩ = some v0 ∧ W.cell? ⟨c, 1, none⟩ = some v1 ∧ W.cell? ⟨c, 2, none⟩ = some v2 ∧ W.cell? ⟨c, 3, none⟩ = some v3 ∧ W.cell? ⟨c, 4, none⟩ = some v4 ∧ W.cell? ⟨c, 5, none⟩ = some v5 ∧ W.cell? ⟨c, 6, none⟩ = some v6 :=
  ⟨hb, cell_later hb h.1.1, cell_later hb h.1.2, cell_later hb h.2.1, cell_later hb h.2.2.1, cell_later hb h.2.2.2.1, cell_later hb h.2.2.2.2.1, cell_later hb h.2.2.2.2.2.1, cell_later hb h.2.2.2.2.2.2.1, cell_later hb h.2.2.2.2.2.2.2⟩
end Go.Proofs.YtbdimlppnhcicaaGreatDoor
namespace Go.Proofs.YtbdimlppnhcicaaGreatDoor
set_option linter.unusedVariables false
open Go.RowKit Rte
/-! route: RouteFinds -/
theorem findN_len (K : ByteArray → Bool) (E : List Edg) (P : List Plc) (A : AskR) : (findN K E P A).1.length ≤ 20 := by
  unfold findN
  split
  · exact Nat.zero_le _
  · cases hx : findB P A (waysGo A.bad E) with
    | none => exact Nat.zero_le _
    | some x =>
      obtain ⟨⟨h, r, e, _, _, _, _, _, _, _, _, _, hr⟩, _⟩ := find_is hx
      show x.hops.length ≤ 20
      rw [e]; simp; omega
theorem below_nilR {w w' : World} (h : w.grownBy w' (Value.ownBlock (.slice none 0 0))) : Below w.heap.size w w' := ⟨h.os, h.tape, h.output, h.size, fun k hk => h.block k hk (fun e => by cases e)⟩
theorem net_ask2 {w : World} {a b : Obj} : ((w.alloc a).alloc b).heap[w.heap.size]? = some a ∧ ((w.alloc a).alloc b).heap[w.heap.size + 1]? = some b := by
  refine ⟨(heap_alloc_old _ _ (by simp)).trans (heap_alloc_at w _), ?_⟩
  have := heap_alloc_at (w.alloc a) b
  simpa using this
set_option maxRecDepth 100000 in
set_option maxHeartbeats 16000000 in
theorem finds_any (oe : Option Addr) (E : List Edg) (ce : Nat) (op : Option Addr) (P : List Plc) (cp : Nat) (A : AskR) (ob : Option Addr) (cb : Nat) (w : World)
    (hE : RowsAt 4 edgC oe E w) (hP : RowsAt 9 plcC op P w) (hB : StrsAt ob A.bad w) (hf : FitR E P A []) (hL : LibOk w) :
    Calls Tryz.prog 4 #[netV oe E.length ce op P.length cp, askV A ob cb] w fun e w' => e = .returned (.bool true) ∧ Below w.heap.size w w' := by
  have hs1 : A.frm.size ≤ maxLen := by have := hf.f; unfold maxLen; omega
  have hs2 : A.dst.size ≤ maxLen := by have := hf.f; unfold maxLen; omega
  have HLG := Lib.hid (fun W (h : Below w.heap.size w W) => large_r oe E ce op P cp A ob cb none [] 0 W (hE.below h) (hP.below h) (hB.below h) (.inl rfl) hf)
  have HWK := Lib.hid (fun W (h : Below w.heap.size w W) => works_r W (hL.below h))
  have HFD := Lib.hid (fun W (h : Below w.heap.size w W) (o1 : Option Addr) (c1 : Nat) (o2 : Option Addr) (c2 : Nat) (o3 : Option Addr) (c3 : Nat) (k1 : RowsAt 4 edgC o1 E W) (k2 : RowsAt 9 plcC o2 P W) (k3 : StrsAt o3 A.bad W) => find_any o1 E c1 o2 P c2 A o3 c3 W hs1 hs2 (hL.below h) k1 k2 k3)
  have HDF := Lib.hid (fun W (h : Below w.heap.size w W) => dfind_any oe E ce op P cp A ob cb W hs1 hs2 (hE.below h) (hP.below h) (hB.below h))
  have HRF := Lib.hid (fun W => refs_any A ob cb W)
  have HE := Lib.hid hE; have HP := Lib.hid hP; have HB := Lib.hid (strs_rows hB)
  have hrl : (findN isKey E P A).1.length ≤ 20 := findN_len isKey E P A
  obtain ⟨⟨r, c⟩, hr⟩ : ∃ r, findN isKey E P A = r := ⟨_, rfl⟩
  rw [hr] at HFD HDF hrl
  have HRL : Hid (r.length ≤ 20) := hrl
  clear hE hP hB hf hL hs1 hs2 hr hrl
  obtain ⟨af, ad, aa, ax, al, ae, bad⟩ := A
  unfold askV at HLG HFD HDF HRF ⊢
  unfold netV at HLG ⊢
  unfold LargeR at HLG
  unfold FindPost at HFD
  unfold DFindPost at HDF
  dsimp only at HLG HFD HDF HRF HB ⊢
  simp only [List.length_nil] at HLG
  obtain ⟨el, hel⟩ : ∃ n, E.length = n := ⟨_, rfl⟩
  obtain ⟨pl, hpl⟩ : ∃ n, P.length = n := ⟨_, rfl⟩
  obtain ⟨bl, hbl⟩ : ∃ n, bad.length = n := ⟨_, rfl⟩
  have HEL := Lib.hid hel; have HPL := Lib.hid hpl; have HBL := Lib.hid hbl
  rw [hel, hpl, hbl] at HLG
  rw [hel, hpl, hbl] at HFD HDF
  rw [hbl] at HRF
  rw [hel, hpl, hbl]
  clear hel hpl hbl
  obtain ⟨i1, hi1, hz10, hz11, hz12⟩ := info_parts Tryz.info51
  obtain ⟨i2, hi2, hz20, hz21, hz22⟩ := info_parts Tryz.info53
  obtain ⟨i3, hi3, hz30, hz31, hz32⟩ := info_parts Tryz.info9s
  go_enter Tryz.func4, Tryz.ntmps4
  go_upto_region 1 with fail
  have B2 : Hid (Below w.heap.size w ((w.alloc (.cells #[.slice oe el ce, .slice op pl cp] 36)).alloc (.cells #[.string af, .string ad, .int .i64 aa, .int .i64 ax, .int .i64 al, .int .i64 ae, .slice ob bl cb] 39))) := ((Below.refl _ _).alloc (Nat.le_refl _) _).alloc (by simp) _
  have K2 : Hid (((w.alloc (.cells #[.slice oe el ce, .slice op pl cp] 36)).alloc (.cells #[.string af, .string ad, .int .i64 aa, .int .i64 ax, .int .i64 al, .int .i64 ae, .slice ob bl cb] 39)).heap[w.heap.size]? = some (.cells #[.slice oe el ce, .slice op pl cp] 36 (0, 0)) ∧ ((w.alloc (.cells #[.slice oe el ce, .slice op pl cp] 36)).alloc (.cells #[.string af, .string ad, .int .i64 aa, .int .i64 ax, .int .i64 al, .int .i64 ae, .slice ob bl cb] 39)).heap[w.heap.size + 1]? = some (.cells #[.string af, .string ad, .int .i64 aa, .int .i64 ax, .int .i64 al, .int .i64 ae, .slice ob bl cb] 39 (0, 0))) := net_ask2
  generalize ((w.alloc (.cells #[.slice oe el ce, .slice op pl cp] 36)).alloc (.cells #[.string af, .string ad, .int .i64 aa, .int .i64 ax, .int .i64 al, .int .i64 ae, .slice ob bl cb] 39)) = w2 at B2 K2 ⊢
  have KK : Hid (∀ W, Below w2.heap.size w2 W → (W.cell? ⟨w.heap.size, 0, none⟩ = some (.slice oe el ce) ∧ W.cell? ⟨w.heap.size, 1, none⟩ = some (.slice op pl cp)) ∧ (W.cell? ⟨w.heap.size + 1, 0, none⟩ = some (.string af) ∧ W.cell? ⟨w.heap.size + 1, 1, none⟩ = some (.string ad) ∧ W.cell? ⟨w.heap.size + 1, 2, none⟩ = some (.int .i64 aa) ∧ W.cell? ⟨w.heap.size + 1, 3, none⟩ = some (.int .i64 ax) ∧ W.cell? ⟨w.heap.size + 1, 4, none⟩ = some (.int .i64 al) ∧ W.cell? ⟨w.heap.size + 1, 5, none⟩ = some (.int .i64 ae) ∧ W.cell? ⟨w.heap.size + 1, 6, none⟩ = some (.slice ob bl cb)) ∧ w.heap.size + 1 < W.heap.size) := fun W h => by
    have e0 := (h.block _ (lt_of_heap K2.out.1)).trans K2.out.1
    have e1 := (h.block _ (lt_of_heap K2.out.2)).trans K2.out.2
    exact ⟨⟨by rw [cell_of_row _ _ _ _ _ _ e0]; rfl, by rw [cell_of_row _ _ _ _ _ _ e0]; rfl⟩, ask_cells e1, lt_of_heap e1⟩
  obtain ⟨⟨n0, n1⟩, ⟨a0, a1, a2, a3, a4, a5, a6⟩, l2⟩ := KK.out w2 (Below.refl _ _)
  go_cut [21] from 19 (fun v wx => ∃ b, v = .bool b ∧ (b = false → el ≤ 300 ∧ pl ≤ 600 ∧ bl ≤ 300) ∧ Hid (Below w2.heap.size w2 wx))
  case first =>
    go_wp2_with (go_at_call 18; (with_reducible refine Calls.mono (HLG.out _ B2.out) ?_); rintro e4 w4 ⟨b, rfl, hbb, hb4⟩; have B4 := Lib.hid hb4; have HBB : Hid (b = false → el ≤ 300 ∧ pl ≤ 600 ∧ bl ≤ 300) := fun h => ⟨(hbb h).1, (hbb h).2.1, (hbb h).2.2.1⟩; clear hb4 hbb)
    all_goals go_meet
    all_goals exact ⟨_, rfl, HBB.out, B4.out⟩
  case rest =>
    clear n0 n1 a0 a1 a2 a3 a4 a5 a6 l2 HLG
    obtain ⟨b, rfl, hbb, HB4⟩ := hcut
    obtain ⟨w4, rfl⟩ : ∃ q, q = wc := ⟨wc, rfl⟩
    have B4 := Lib.hid (btr B2.out HB4.out)
    cases b with
    | true =>
      go_wp2_with (go_at_call 19; (with_reducible refine Calls.mono (HWK.out _ B4.out) ?_); rintro e w5 ⟨rfl, hb⟩; have B5 := Lib.hid (btr B4.out hb); clear hb)
      go_ret
      exact ⟨rfl, B5.out⟩
    | false =>
      obtain ⟨q1, q2, q3⟩ := hbb rfl
      have Q1 := Lib.hid q1; have Q2 := Lib.hid q2; have Q3 := Lib.hid q3
      clear hbb q1 q2 q3
      obtain ⟨⟨n0, n1⟩, ⟨a0, a1, a2, a3, a4, a5, a6⟩, l4⟩ := KK.out w4 HB4.out
      go_upto_region 6 with (at_builtin; refine wpList_app_rows rfl edgC_len edgC_one _ _ 33 rfl w4.heap.size 51 i1 _ 56 Tryz.underlying33 hi1 hz10 hz11 hz12 rfl (by omega) none 0 0 [] rfl (World.ownsRow_nil _ _ _ _) oe E ce (by show _ = Value.slice oe E.length ce; rw [HEL.out]; rfl) (HE.out.below B4.out) (by have := Q1.out; have := HEL.out; unfold maxLen; omega) (by have := Q1.out; have := HEL.out; omega) (Nat.le_refl _) ?_; intro o1 c1 w5 hown hgrow; have B5 : Hid (Below w4.heap.size w4 w5) := below_nilR hgrow; have R5 := Lib.hid (own_rows (l := E) edgC_len hown (by simp)); clear hown hgrow)
      obtain ⟨o1', c1', e1, r5⟩ := R5.out
      cases e1
      have RE5 := Lib.hid r5
      rw [HEL.out]
      clear R5 r5 n0 n1 a0 a1 a2 a3 a4 a5 a6 l4
      have C5 := Lib.hid (btr HB4.out B5.out)
      have D5 := Lib.hid (btr B4.out B5.out)
      obtain ⟨⟨n0, n1⟩, ⟨a0, a1, a2, a3, a4, a5, a6⟩, l5⟩ := KK.out w5 C5.out
      go_upto_region 8 with (at_builtin; refine wpList_app_rows rfl plcC_len plcC_one _ _ 34 rfl w5.heap.size 53 i2 _ 88 Tryz.underlying34 hi2 hz20 hz21 hz22 rfl (by omega) none 0 0 [] rfl (World.ownsRow_nil _ _ _ _) op P cp (by show _ = Value.slice op P.length cp; rw [HPL.out]; rfl) (HP.out.below D5.out) (by have := Q2.out; have := HPL.out; unfold maxLen; omega) (by have := Q2.out; have := HPL.out; omega) (Nat.le_refl _) ?_; intro o2 c2 w6 hown hgrow; have B6 : Hid (Below w5.heap.size w5 w6) := below_nilR hgrow; have R6 := Lib.hid (own_rows (l := P) plcC_len hown (by simp)); clear hown hgrow)
      obtain ⟨o2', c2', e2, r6⟩ := R6.out
      cases e2
      have RP6 := Lib.hid r6
      rw [HPL.out]
      clear R6 r6 n0 n1 a0 a1 a2 a3 a4 a5 a6 l5
      have C6 := Lib.hid (btr C5.out B6.out)
      have D6 := Lib.hid (btr D5.out B6.out)
      obtain ⟨⟨n0, n1⟩, ⟨a0, a1, a2, a3, a4, a5, a6⟩, l6⟩ := KK.out w6 C6.out
      go_upto_region 9 with (at_builtin; refine wpList_app_rows rfl strC_len strC_one _ _ 37 rfl w6.heap.size 9 i3 _ 16 Tryz.underlying37 hi3 hz30 hz31 hz32 rfl (by omega) none 0 0 [] rfl (World.ownsRow_nil _ _ _ _) ob bad cb (by show _ = Value.slice ob bad.length cb; rw [HBL.out]; rfl) (HB.out.below D6.out) (by have := Q3.out; have := HBL.out; unfold maxLen; omega) (by have := Q3.out; have := HBL.out; omega) (Nat.le_refl _) ?_; intro o3 c3 w7 hown hgrow; have B7 : Hid (Below w6.heap.size w6 w7) := below_nilR hgrow; have R7 := Lib.hid (own_rows (l := bad) strC_len hown (by simp)); clear hown hgrow)
      obtain ⟨o3', c3', e3, r7⟩ := R7.out
      cases e3
      have RB7 := Lib.hid (rows_strs r7)
      rw [HBL.out]
      clear R7 r7 n0 n1 a0 a1 a2 a3 a4 a5 a6 l6
      have C7 := Lib.hid (btr C6.out B7.out)
      have D7 := Lib.hid (btr D6.out B7.out)
      obtain ⟨⟨n0, n1⟩, ⟨a0, a1, a2, a3, a4, a5, a6⟩, l7⟩ := KK.out w7 C7.out
      go_upto_region 11 with fail
      have K8 : Hid (FnS w #[.slice oe el ce, .slice op pl cp] #[.string af, .string ad, .int .i64 aa, .int .i64 ax, .int .i64 al, .int .i64 ae, .slice ob bl cb] #[.string af, .string ad, .int .i64 aa, .int .i64 ax, .int .i64 al, .int .i64 ae, .slice o3 bl c3] w7.heap.size E P bad o1 o2 o3 (w7.alloc (.cells #[.string af, .string ad, .int .i64 aa, .int .i64 ax, .int .i64 al, .int .i64 ae, .slice o3 bl c3] 39))) := by
        have c8 := btr C7.out (below_new' w7 (.cells #[.string af, .string ad, .int .i64 aa, .int .i64 ax, .int .i64 al, .int .i64 ae, .slice o3 bl c3] 39))
        exact ⟨btr D7.out (below_new' _ _), (c8.block _ (lt_of_heap K2.out.1)).trans K2.out.1, (c8.block _ (lt_of_heap K2.out.2)).trans K2.out.2, heap_alloc_at _ _, RE5.out.below (btr (btr B6.out B7.out) (below_new' _ _)), RP6.out.below (btr B7.out (below_new' _ _)), RB7.out.below (below_new' _ _)⟩
      have C8 : Hid (Below w2.heap.size w2 (w7.alloc (.cells #[.string af, .string ad, .int .i64 aa, .int .i64 ax, .int .i64 al, .int .i64 ae, .slice o3 bl c3] 39))) := btr C7.out (below_new' _ _)
      clear n0 n1 a0 a1 a2 a3 a4 a5 a6 l7 RE5 RP6 RB7 B5 B6 B7 C5 C6 C7 D5 D6 D7 hi1 hz10 hz11 hz12 hi2 hz20 hz21 hz22 hi3 hz30 hz31 hz32
      generalize (w7.alloc (.cells #[.string af, .string ad, .int .i64 aa, .int .i64 ax, .int .i64 al, .int .i64 ae, .slice o3 bl c3] 39)) = w8 at K8 C8 ⊢
      generalize w7.heap.size = ib at K8 ⊢
      clear w7 w6 w5
      obtain ⟨b0, b1, b2, b3, b4, b5, b6⟩ := ask_cells K8.out.inn
      have bl8 := lt_of_heap K8.out.inn
      go_upto_region 12 with (go_at_call 20; (with_reducible refine Calls.mono (HFD.out w8 K8.out.bel o1 c1 o2 c2 o3 c3 K8.out.e K8.out.p K8.out.b) ?_); rintro e9 w9 ⟨hb9, v9, rfl, hown9⟩; have B9 := Lib.hid hb9; have O9 := Lib.hid hown9; obtain ⟨lo, lc, rfl⟩ := own_slice hown9; clear hb9 hown9)
      clear b0 b1 b2 b3 b4 b5 b6 bl8
      have C9 := Lib.hid (btr C8.out B9.out)
      have hcc := KK.out w9 C9.out
      have HCC : Hid ((w9.cell? ⟨w.heap.size, 0, none⟩ = some (.slice oe el ce) ∧ w9.cell? ⟨w.heap.size, 1, none⟩ = some (.slice op pl cp)) ∧ w9.cell? ⟨w.heap.size + 1, 0, none⟩ = some (.string af) ∧ w9.cell? ⟨w.heap.size + 1, 1, none⟩ = some (.string ad) ∧ w9.cell? ⟨w.heap.size + 1, 2, none⟩ = some (.int .i64 aa) ∧ w9.cell? ⟨w.heap.size + 1, 3, none⟩ = some (.int .i64 ax) ∧ w9.cell? ⟨w.heap.size + 1, 4, none⟩ = some (.int .i64 al) ∧ w9.cell? ⟨w.heap.size + 1, 5, none⟩ = some (.int .i64 ae) ∧ w9.cell? ⟨w.heap.size + 1, 6, none⟩ = some (.slice ob bl cb)) := ⟨hcc.1, hcc.2.1⟩
      have D9 := Lib.hid (btr K8.out.bel B9.out)
      have H22 : Hid (Calls Tryz.prog 22 #[.agg #[.string af, .string ad, .int .i64 aa, .int .i64 ax, .int .i64 al, .int .i64 ae, .slice ob bl cb]] w9.drew fun ee w' => ee = .returned (.agg #[.string af, .string ad, .int .i64 aa, .int .i64 ax, .int .i64 al, .int .i64 ae, .slice ob bl cb]) ∧ Below w9.heap.size w9 w') := (HRF.out w9.drew).mono fun ee w' q => ⟨q.1, btr (Below.refl _ _).drew q.2⟩
      have H21 : Hid (∀ W, Below w9.heap.size w9 W → Calls Tryz.prog 21 #[.slice oe el ce, .slice op pl cp, .agg #[.string af, .string ad, .int .i64 aa, .int .i64 ax, .int .i64 al, .int .i64 ae, .slice ob bl cb]] W fun ee w' => ∃ oo oc, ee = .returned (.tuple #[.slice oo r.length oc, .int .i64 c]) ∧ Below w9.heap.size w9 w' ∧ RowsAt 4 hpC oo r w' ∧ (r ≠ [] → NewA w9.heap.size oo)) := fun W h => (HDF.out W (btr D9.out h)).mono fun ee w' q => by
        obtain ⟨q0, oo, oc, q1, q2, q3⟩ := q
        exact ⟨oo, oc, q1, btr h q0, q2, fun hr => (q3 hr).weak h.size⟩
      obtain ⟨⟨n0, n1⟩, ⟨a0, a1, a2, a3, a4, a5, a6⟩, l9⟩ := hcc
      go_region_held3 (fun W => Below w9.heap.size w9 W ∧ W.cell? ⟨w.heap.size, 0, none⟩ = some (.slice oe el ce) ∧ W.cell? ⟨w.heap.size, 1, none⟩ = some (.slice op pl cp) ∧ W.cell? ⟨w.heap.size + 1, 0, none⟩ = some (.string af) ∧ W.cell? ⟨w.heap.size + 1, 1, none⟩ = some (.string ad) ∧ W.cell? ⟨w.heap.size + 1, 2, none⟩ = some (.int .i64 aa) ∧ W.cell? ⟨w.heap.size + 1, 3, none⟩ = some (.int .i64 ax) ∧ W.cell? ⟨w.heap.size + 1, 4, none⟩ = some (.int .i64 al) ∧ W.cell? ⟨w.heap.size + 1, 5, none⟩ = some (.int .i64 ae) ∧ W.cell? ⟨w.heap.size + 1, 6, none⟩ = some (.slice ob bl cb))
        ((go_split_ands; exact keep9 (by (repeat' (first | (with_reducible exact Below.refl _ _) | (with_reducible assumption) | (with_reducible refine Below.alloc ?_ ?_ _) | (with_reducible refine Below.drew ?_) | (with_reducible refine Below.setCell ?_ ?_ _) | (with_reducible refine bdN ?_ _) | assumption | go_size | (simp; omega)))) HCC.out))
        ((first
          | (go_at_call 22; (with_reducible refine Calls.mono H22.out ?_); rintro e12 w12 ⟨rfl, hb12⟩)
          | (go_at_call 21; (with_reducible refine Calls.mono (H21.out _ (by assumption)) ?_); rintro e13 w13 ⟨ow, oc, rfl, hb13, hr13, hn13⟩; have B13 := Lib.hid hb13; have R13 := Lib.hid hr13; have N13 := Lib.hid hn13; clear hb13 hr13 hn13)))
      clear n0 n1 a0 a1 a2 a3 a4 a5 a6 l9 H22 H21 HCC hb12 w12
      have K13 := Lib.hid (K8.out.next (btr B9.out B13.out))
      have RL9 : Hid (RowsAt 4 hpC lo r w9) := by
        obtain ⟨o', c', e', h'⟩ := own_rows hpC_len O9.out rfl
        cases e'; exact h'
      have HS1 := Lib.hid (same_yes r lo lc ow oc w13 (RL9.out.below B13.out) R13.out (by have := HRL.out; omega))
      have ec : (c != c) = false := by simp
      go_upto_region 16 with (go_at_call 23; (with_reducible refine Calls.mono HS1.out ?_); rintro e14 w14 ⟨rfl, hb14⟩; have B14 := Lib.hid hb14; clear hb14)
      have K14 := Lib.hid (K13.out.next B14.out)
      have R14 := Lib.hid (R13.out.below B14.out)
      have G0 : Hid (∃ g, w8.heap.size ≤ g ∧ g < w9.heap.size + 1 ∧ (r ≠ [] → lo = some ⟨g, 0, none⟩ ∧ g < w9.heap.size ∧ ∃ cur, w14.heap[g]? = some (.cells cur 49 (0, 0)) ∧ r.length * 4 ≤ cur.size)) := by
        rcases O9.out.2 with ⟨e, h0⟩ | ⟨g, cap, cur, e, h1, h2, h3, h4, h5, h6⟩
        · have hr0 : r = [] := List.length_eq_zero_iff.1 h0
          exact ⟨w8.heap.size, Nat.le_refl _, by have := B9.out.size; omega, fun h => absurd hr0 h⟩
        · cases e
          have hg := lt_of_heap h2
          refine ⟨g, h1, by omega, fun _ => ⟨rfl, hg, cur, ?_, by rw [h5]; exact Nat.mul_le_mul_right 4 h3⟩⟩
          exact ((btr B13.out B14.out).block g hg).trans h2
      obtain ⟨g, hg8, hg9, hgr⟩ := G0.out
      have HG8 := Lib.hid hg8
      have HGR := Lib.hid hgr
      have HNE : Hid (∀ b off, ow = some ⟨b, off, none⟩ → r ≠ [] → b ≠ g) := fun b off e hr => by
        obtain ⟨b', e', hb'⟩ := N13.out hr
        rw [e] at e'; cases e'
        have := (hgr hr).2.1
        omega
      clear hg8 hg9 hgr G0 HS1 ec
      go_wp2_with fail
      go_loopw [13] (fun iv wr => ∃ i : Nat, i ≤ r.length ∧ iv = .int .i64 i ∧ Hid (Fr (fun i => i = g) w14 wr) ∧ Hid (r ≠ [] → ∃ cur, wr.heap[g]? = some (.cells cur 49 (0, 0)) ∧ r.length * 4 ≤ cur.size)) (fun iv _ => r.length - (intOf iv).toNat)
      case atStart => exact ⟨0, Nat.zero_le _, rfl, Fr.refl _ _, fun h => (HGR.out h).2.2⟩
      case round =>
        obtain ⟨i, hi, rfl, hF, hC⟩ := hrel
        have hrl := HRL.out
        by_cases hlt : i < r.length
        · have hne : r ≠ [] := by intro h; rw [h] at hlt; simp at hlt
          obtain ⟨cur, hk, hcs⟩ := hC.out hne
          obtain ⟨hlo, hgl, -⟩ := HGR.out hne
          subst hlo
          have hii : (i : Int) < (r.length : Int) := by omega
          have hii2 : (r.length : Int) ≤ 20 := by omega
          obtain ⟨zv, z2⟩ : ∃ zv, wr.cell? ⟨g, i * 4 + 2, none⟩ = some zv := ⟨cur[i * 4 + 2]'(by omega), by rw [cell_of_row _ _ _ _ _ _ hk]; exact Array.getElem?_eq_getElem (by omega)⟩
          have f2 := froz9 hk (i * 4 + 2)
          have gl := lt_of_heap hk
          have HF2 := Lib.hid (hF.out.set g (i * 4 + 2) (.int .i64 (-9)) rfl)
          have HC2 : Hid (r ≠ [] → ∃ cur, (wr.setCell ⟨g, i * 4 + 2, none⟩ (.int .i64 (-9))).heap[g]? = some (.cells cur 49 (0, 0)) ∧ r.length * 4 ≤ cur.size) := fun _ => ⟨_, heap_setCell_same _ _ _ _ _ _ hk, by simpa using hcs⟩
          clear hk hcs hne hC hF hgl
          go_wp2_with fail
          go_roundw
          case rel => exact ⟨i + 1, hlt, by go_num, HF2.out, HC2.out⟩
          case measure => simp only [intOf]; omega
        · obtain rfl : i = r.length := by omega
          have K15 := Lib.hid (FnS.fr K8.out HG8.out K14.out hF.out)
          have R15 := Lib.hid (rows_fr R14.out HNE.out hF.out)
          clear hi hlt hC hF hrl
          clear HNE HGR R14 K14 B14 R13 N13 K13 B13 O9 RL9 D9 C9 C8 HG8 HDF HRF HB4 KK
          obtain ⟨w15, rfl⟩ : ∃ q, q = wr := ⟨wr, rfl⟩
          go_wp2_with fail
          go_loopw [14] (fun iv wr => ∃ i : Nat, i ≤ el ∧ iv = .int .i64 i ∧ Hid (Below w15.heap.size w15 wr)) (fun iv _ => el - (intOf iv).toNat)
          case atStart => exact ⟨0, Nat.zero_le _, rfl, Below.refl _ _⟩
          case round =>
            obtain ⟨i, hi, rfl, hB2⟩ := hrel
            have KW := Lib.hid (K15.out.next hB2.out)
            have hq1 := Q1.out
            by_cases hlt : i < el
            · obtain ⟨x, hx⟩ : ∃ x, E[i]? = some x := ⟨_, List.getElem?_eq_getElem (by rw [HEL.out]; exact hlt)⟩
              obtain ⟨g1, f1, e1, hc1⟩ := rows_at KW.out.e hx
              obtain ⟨g2, f2, e2, hc2⟩ := rows_at (HE.out.below KW.out.bel) hx
              subst e1 e2
              have y0 : wr.cell? ⟨g1, f1 + i * 4, none⟩ = some (.string x.chan) := cell_later' (Below.refl _ _) (hc1 0 _ rfl)
              have y1 : wr.cell? ⟨g1, f1 + i * 4 + 1, none⟩ = some (.string x.a) := cell_later' (Below.refl _ _) (hc1 1 _ rfl)
              have y2 : wr.cell? ⟨g1, f1 + i * 4 + 2, none⟩ = some (.string x.b) := cell_later' (Below.refl _ _) (hc1 2 _ rfl)
              have y3 : wr.cell? ⟨g1, f1 + i * 4 + 3, none⟩ = some (.int .i64 x.cap) := cell_later' (Below.refl _ _) (hc1 3 _ rfl)
              have z0 : wr.cell? ⟨g2, f2 + i * 4, none⟩ = some (.string x.chan) := cell_later' (Below.refl _ _) (hc2 0 _ rfl)
              have z1 : wr.cell? ⟨g2, f2 + i * 4 + 1, none⟩ = some (.string x.a) := cell_later' (Below.refl _ _) (hc2 1 _ rfl)
              have z2 : wr.cell? ⟨g2, f2 + i * 4 + 2, none⟩ = some (.string x.b) := cell_later' (Below.refl _ _) (hc2 2 _ rfl)
              have z3 : wr.cell? ⟨g2, f2 + i * 4 + 3, none⟩ = some (.int .i64 x.cap) := cell_later' (Below.refl _ _) (hc2 3 _ rfl)
              have n0 : wr.cell? ⟨w.heap.size, 0, none⟩ = some (.slice (some ⟨g2, f2, none⟩) el ce) := by rw [cell_of_row _ _ _ _ _ _ KW.out.net]; rfl
              have nl := lt_of_heap KW.out.net
              have hii : (i : Int) < (el : Int) := by omega
              have hii2 : (el : Int) ≤ 300 := by omega
              clear hc1 hc2 hx
              go_wp2_with fail
              go_quiet (fail)
              go_wp2_with fail
              go_roundw
              case rel => exact ⟨i + 1, hlt, by go_num, bdN hB2.out _⟩
              case measure => simp [intOf]; omega
            · obtain rfl : i = el := by omega
              clear hi hlt hq1
              go_wp2_with fail
              go_loopw [15] (fun iv wr => ∃ i : Nat, i ≤ pl ∧ iv = .int .i64 i ∧ Hid (Below w15.heap.size w15 wr)) (fun iv _ => pl - (intOf iv).toNat)
              case atStart => exact ⟨0, Nat.zero_le _, rfl, hB2.out⟩
              case round =>
                clear hB2 KW
                obtain ⟨k, hk, rfl, hB2⟩ := hrel
                have KW := Lib.hid (K15.out.next hB2.out)
                have hq2 := Q2.out
                by_cases hlt : k < pl
                · obtain ⟨x, hx⟩ : ∃ x, P[k]? = some x := ⟨_, List.getElem?_eq_getElem (by rw [HPL.out]; exact hlt)⟩
                  obtain ⟨g1, f1, e1, hc1⟩ := rows_at KW.out.p hx
                  obtain ⟨g2, f2, e2, hc2⟩ := rows_at (HP.out.below KW.out.bel) hx
                  subst e1 e2
                  have y0 : wr.cell? ⟨g1, f1 + k * 9, none⟩ = some (.string x.chan) := cell_later' (Below.refl _ _) (hc1 0 _ rfl)
                  have y1 : wr.cell? ⟨g1, f1 + k * 9 + 1, none⟩ = some (.string x.frm) := cell_later' (Below.refl _ _) (hc1 1 _ rfl)
                  have y2 : wr.cell? ⟨g1, f1 + k * 9 + 2, none⟩ = some (.int .i64 x.stamp) := cell_later' (Below.refl _ _) (hc1 2 _ rfl)
                  have y3 : wr.cell? ⟨g1, f1 + k * 9 + 3, none⟩ = some (.int .i64 x.base) := cell_later' (Below.refl _ _) (hc1 3 _ rfl)
                  have y4 : wr.cell? ⟨g1, f1 + k * 9 + 4, none⟩ = some (.int .i64 x.rate) := cell_later' (Below.refl _ _) (hc1 4 _ rfl)
                  have y5 : wr.cell? ⟨g1, f1 + k * 9 + 5, none⟩ = some (.int .i64 x.delta) := cell_later' (Below.refl _ _) (hc1 5 _ rfl)
                  have y6 : wr.cell? ⟨g1, f1 + k * 9 + 6, none⟩ = some (.int .i64 x.min) := cell_later' (Below.refl _ _) (hc1 6 _ rfl)
                  have y7 : wr.cell? ⟨g1, f1 + k * 9 + 7, none⟩ = some (.int .i64 x.max) := cell_later' (Below.refl _ _) (hc1 7 _ rfl)
                  have y8 : wr.cell? ⟨g1, f1 + k * 9 + 8, none⟩ = some (.bool x.off) := cell_later' (Below.refl _ _) (hc1 8 _ rfl)
                  have z0 : wr.cell? ⟨g2, f2 + k * 9, none⟩ = some (.string x.chan) := cell_later' (Below.refl _ _) (hc2 0 _ rfl)
                  have z1 : wr.cell? ⟨g2, f2 + k * 9 + 1, none⟩ = some (.string x.frm) := cell_later' (Below.refl _ _) (hc2 1 _ rfl)
                  have z2 : wr.cell? ⟨g2, f2 + k * 9 + 2, none⟩ = some (.int .i64 x.stamp) := cell_later' (Below.refl _ _) (hc2 2 _ rfl)
                  have z3 : wr.cell? ⟨g2, f2 + k * 9 + 3, none⟩ = some (.int .i64 x.base) := cell_later' (Below.refl _ _) (hc2 3 _ rfl)
                  have z4 : wr.cell? ⟨g2, f2 + k * 9 + 4, none⟩ = some (.int .i64 x.rate) := cell_later' (Below.refl _ _) (hc2 4 _ rfl)
                  have z5 : wr.cell? ⟨g2, f2 + k * 9 + 5, none⟩ = some (.int .i64 x.delta) := cell_later' (Below.refl _ _) (hc2 5 _ rfl)
                  have z6 : wr.cell? ⟨g2, f2 + k * 9 + 6, none⟩ = some (.int .i64 x.min) := cell_later' (Below.refl _ _) (hc2 6 _ rfl)
                  have z7 : wr.cell? ⟨g2, f2 + k * 9 + 7, none⟩ = some (.int .i64 x.max) := cell_later' (Below.refl _ _) (hc2 7 _ rfl)
                  have z8 : wr.cell? ⟨g2, f2 + k * 9 + 8, none⟩ = some (.bool x.off) := cell_later' (Below.refl _ _) (hc2 8 _ rfl)
                  have n1 : wr.cell? ⟨w.heap.size, 1, none⟩ = some (.slice (some ⟨g2, f2, none⟩) pl cp) := by rw [cell_of_row _ _ _ _ _ _ KW.out.net]; rfl
                  have nl := lt_of_heap KW.out.net
                  have hii : (k : Int) < (pl : Int) := by omega
                  have hii2 : (pl : Int) ≤ 600 := by omega
                  clear hc1 hc2 hx
                  go_wp2_with fail
                  go_quiet (fail)
                  go_wp2_with fail
                  go_roundw
                  case rel => exact ⟨k + 1, hlt, by go_num, bdN hB2.out _⟩
                  case measure => simp [intOf]; omega
                · obtain rfl : k = pl := by omega
                  clear hk hlt hq2
                  go_wp2_with fail
                  go_loopw [16] (fun iv wr => ∃ i : Nat, i ≤ bl ∧ iv = .int .i64 i ∧ Hid (Below w15.heap.size w15 wr)) (fun iv _ => bl - (intOf iv).toNat)
                  case atStart => exact ⟨0, Nat.zero_le _, rfl, hB2.out⟩
                  case round =>
                    clear hB2 KW
                    obtain ⟨m, hm, rfl, hB2⟩ := hrel
                    have KW := Lib.hid (K15.out.next hB2.out)
                    have hq3 := Q3.out
                    by_cases hlt : m < bl
                    · obtain ⟨x, hx⟩ : ∃ x, bad[m]? = some x := ⟨_, List.getElem?_eq_getElem (by rw [HBL.out]; exact hlt)⟩
                      obtain ⟨g1, f1, e1, y0⟩ := str_at KW.out.b hx
                      obtain ⟨g2, f2, e2, z0⟩ := str_at (rows_strs (HB.out.below KW.out.bel)) hx
                      subst e1 e2
                      have n6 := (ask_cells KW.out.ask).2.2.2.2.2.2
                      have nl := lt_of_heap KW.out.ask
                      have hii : (m : Int) < (bl : Int) := by omega
                      have hii2 : (bl : Int) ≤ 300 := by omega
                      clear hx
                      go_wp2_with fail
                      go_quiet (fail)
                      go_wp2_with fail
                      go_roundw
                      case rel => exact ⟨m + 1, hlt, by go_num, bdN hB2.out _⟩
                      case measure => simp [intOf]; omega
                    · obtain rfl : m = bl := by omega
                      clear hm hlt hq3
                      obtain ⟨b0, b1, b2, b3, b4, b5, b6⟩ := ask_cells KW.out.inn
                      have bl8 := lt_of_heap KW.out.inn
                      have HFW := Lib.hid (HFD.out wr KW.out.bel o1 c1 o2 c2 o3 c3 KW.out.e KW.out.p KW.out.b)
                      have RWW := Lib.hid (R15.out.below hB2.out)
                      have HRL2 : Hid (r.length ≤ 1000) := by have := HRL.out; show _ ≤ _; omega
                      have DW := Lib.hid KW.out.bel
                      clear HFD HE HP HB
                      go_wp2_with (first
                        | (go_at_call 20; (with_reducible refine Calls.mono HFW.out ?_); rintro e16 w16 ⟨hb16, v16, rfl, hown16⟩; have B16 := Lib.hid hb16; obtain ⟨lo', lc', rfl⟩ := own_slice hown16; obtain ⟨o', c', e', h'⟩ := own_rows hpC_len hown16 rfl; cases e'; have RL16 := Lib.hid h'; have RW16 := Lib.hid (RWW.out.below hb16); have D16 := Lib.hid (btr DW.out hb16); clear hb16 hown16 h')
                        | (go_at_call 23; (with_reducible refine Calls.mono (same_yes r lo' lc' ow oc w16 RL16.out RW16.out HRL2.out) ?_); rintro e17 w17 ⟨rfl, hb17⟩; have D17 := Lib.hid (btr D16.out hb17); clear hb17)
                        | (go_at_call 19; (with_reducible refine Calls.mono (HWK.out _ D17.out) ?_); rintro e18 w18 ⟨rfl, hb18⟩; have D18 := Lib.hid (btr D17.out hb18); clear hb18))
                      go_ret
                      exact ⟨rfl, D18.out⟩
end Go.Proofs.YtbdimlppnhcicaaGreatDoor
namespace Go.Proofs.YtbdimlppnhcicaaGreatDoor
set_option linter.unusedVariables false
open Go.RowKit Rte
/-! route: the laws as their frames take them -/
theorem finds_law (oe : Option Addr) (E : List Edg) (ce : Nat) (op : Option Addr) (P : List Plc) (cp : Nat) (A : AskR) (ob : Option Addr) (cb : Nat) (w : World)
    (hE : RowsAt 4 edgC oe E w) (hP : RowsAt 9 plcC op P w) (mE : E.length ≤ maxLen) (mP : P.length ≤ maxLen) (zE : ∀ x ∈ E, x.chan.size ≤ 140737488351232 ∧ x.a.size ≤ 140737488351232 ∧ x.b.size ≤ 140737488351232) (zP : ∀ x ∈ P, x.chan.size ≤ 140737488351232 ∧ x.frm.size ≤ 140737488351232)
    (hB : StrsAt ob A.bad w) (mB : A.bad.length ≤ maxLen) (zB : ∀ z ∈ A.bad, z.size ≤ 140737488351232) (zf : A.frm.size ≤ 140737488351232) (zd : A.dst.size ≤ 140737488351232) (hL : LibOk w) :
    Calls Tryz.prog 4 #[netV oe E.length ce op P.length cp, askV A ob cb] w fun e w' => e = .returned (.bool true) ∧ Below w.heap.size w w' :=
  finds_any oe E ce op P cp A ob cb w hE hP hB ⟨zE, zP, zB, (fun x hx => by cases hx), ⟨zf, zd⟩, len_fit mE, len_fit mP, len_fit mB, by simp⟩ hL
end Go.Proofs.YtbdimlppnhcicaaGreatDoor
