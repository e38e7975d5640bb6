import Derived.Deep.RegionHeld3
import Derived.StillTailTactics
import Derived.Lib.ParseIntB
import Derived.Lib.Bytealg
import Derived.Lib.ItoaNum
import Derived.Lib.ParseIntBCases
import Derived.Shelf.Strings.Builder1
import Derived.Shelf.Small.Bits
import Derived.Shelf.Small.Strs
import Derived.Shelf.Small.Wraps
import Derived.Shelf.Strings.BuilderF
import Derived.Shelf.Strings.BuilderK
import Derived.Shelf.Strconv.Itoa0
import Derived.Shelf.Strconv.Itoa1
import Derived.Shelf.LaysM
import Derived.Shelf.Strconv.Itoa2
import Derived.Shelf.Strconv.Itoa3
import Derived.Shelf.Strconv.Itoa4
import Derived.Shelf.Strconv.ParseIntEmpty
import Derived.Shelf.Strconv.Clone
import Derived.Shelf.Strconv.SyntaxError
import Derived.Shelf.LaysC
import Derived.Shelf.Strconv.ToError
import Derived.Shelf.Strconv.Lower
import Derived.Shelf.Strconv.ParseUint10
import Derived.Shelf.Strconv.ParseUint10Empty
import Derived.Shelf.Strconv.ParseUint10Any
import Derived.Shelf.Strconv.ParseInt10
import Derived.Shelf.Strconv.RangeError
import Derived.Shelf.Strconv.ToErrorRange
import Derived.Shelf.Strconv.ParseUintEmpty
import Derived.Shelf.Strconv.ParseUint10b64
import Derived.Shelf.Strconv.ParseUint10b32
import Derived.Shelf.Strconv.ParseUint10b16
import Derived.Shelf.Strconv.ParseUint10b8
import Derived.Shelf.Strconv.ParseUint10At
import Derived.Shelf.Strconv.ParseInt10At64
import Derived.Shelf.Strconv.ParseInt10At32
import Derived.Shelf.Strconv.ParseInt10At16
import Derived.Shelf.Strconv.ParseInt10At8
import Derived.Shelf.Strconv.ParseInt10All
import Derived.Shelf.Strconv.ParseIntPublic10
import Derived.Shelf.Strconv.ErrVarParseInt
import Derived.Shelf.Strings.Search1
import Derived.Shelf.Bits.Mul64
import Derived.Shelf.Strings.BuilderCap
import Derived.Ground.Names2Prog
import Derived.Shelf.Slices.Clone
import Derived.Shelf.Slices.SearchI
import Derived.Ground.SlgnProg
import Derived.Shelf.SlicesE.Clone
import Derived.WalkKit
import Derived.WalkSpells
import Derived.WalkLawsBesides
import Derived.Handy
import Derived.Lib.Hide
import Derived.Deep.QuietTactic
import Derived.BigQuiet
import Derived.Lib.Strings
import Derived.Lib.IndexBytes
import Derived.BigRegion
import Derived.Deep.RegionLaw
import Derived.Deep.AppendLies
import Derived.Deep.LoopGhost
import Derived.Deep.Onto
import Derived.Deep.WholeRow
import Derived.Deep.CutRange
import Derived.Laws.CopyOwn
import Derived.Lib.ItoaLen
import Derived.Lib.AppendIntMem
import Derived.Deep.CutBlock
import Derived.Deep.MidRow
import Derived.Deep.RegionHeld
import Derived.Outline
import Derived.Laws.Tables
import Derived.Laws.MakeOwn
import Derived.Laws.OwnMore
import Derived.WalkMore
import Derived.MapKept
import Derived.Carry
import Derived.Test.YtbdimlppnhcicaaGreatDoorRows
import Derived.Test.YtbdimlppnhcicaaGreatDoorProg
import Derived.Test.YtbdimlppnhcicaaGreatDoorNu
import Derived.Test.YtbdimlppnhcicaaGreatDoorTa
import Derived.Test.YtbdimlppnhcicaaGreatDoorRg
import Derived.Test.YtbdimlppnhcicaaGreatDoorBa
import Derived.Test.YtbdimlppnhcicaaGreatDoorRefI
import Derived.Test.YtbdimlppnhcicaaGreatDoorVa
import Derived.Test.YtbdimlppnhcicaaGreatDoorWg
import Derived.Test.YtbdimlppnhcicaaGreatDoorSo
import Derived.Test.YtbdimlppnhcicaaGreatDoorOnA
import Derived.Test.YtbdimlppnhcicaaGreatDoorOb
import Derived.Test.YtbdimlppnhcicaaGreatDoorOe
import Derived.Test.YtbdimlppnhcicaaGreatDoorMny
import Derived.Test.YtbdimlppnhcicaaGreatDoorRo1
import Derived.Test.YtbdimlppnhcicaaGreatDoorOf
import Derived.Test.YtbdimlppnhcicaaGreatDoorOh
import Derived.Test.YtbdimlppnhcicaaGreatDoorOj
import Derived.Test.YtbdimlppnhcicaaGreatDoorRo2
import Derived.Test.YtbdimlppnhcicaaGreatDoorRo3
import Derived.Test.YtbdimlppnhcicaaGreatDoorRo4
import Derived.Test.YtbdimlppnhcicaaGreatDoorRo5
import Derived.Test.YtbdimlppnhcicaaGreatDoorRo7
import Derived.Test.YtbdimlppnhcicaaGreatDoorRo6
import Derived.Test.YtbdimlppnhcicaaGreatDoorRo8
namespace Go.Proofs.YtbdimlppnhcicaaGreatDoor
set_option linter.unusedVariables false
open Go.RowKit Rte
/-! route: the document's Find -/
theorem keep8 {w W : World} {b o0 o1 o2 o3 c r0 r1 r2 r3 : Nat} {u0 u1 u2 u3 v0 v1 v2 v3 : Value} (hb : Below w.heap.size w W) (h : w.cell? ⟨b, o0, none⟩ = some u0 ∧ w.cell? ⟨b, o1, none⟩ = some u1 ∧ w.cell? ⟨b, o2, none⟩ = some u2 ∧ w.cell? ⟨b, o3, none⟩ = some u3 ∧ w.cell? ⟨c, r0, none⟩ = some v0 ∧ w.cell? ⟨c, r1, none⟩ = some v1 ∧ w.cell? ⟨c, r2, none⟩ = some v2 ∧ w.cell? ⟨c, r3, none⟩ = some v3) :
    Below w.heap.size w W ∧ W.cell? ⟨b, o0, none⟩ = some u0 ∧ W.cell? ⟨b, o1, none⟩ = some u1 ∧ W.cell? ⟨b, o2, none⟩ = some u2 ∧ W.cell? ⟨b, o3, none⟩ = some u3 ∧ W.cell? ⟨c, r0, none⟩ = some v0 ∧ W.cell? ⟨c, r1, none⟩ = some v1 ∧ W.cell? ⟨c, r2, none⟩ = some v2 ∧ W.cell? ⟨c, r3, none⟩ = some v3 :=
  ⟨hb, cell_later hb h.1, cell_later hb h.2.1, cell_later hb h.2.2.1, cell_later hb h.2.2.2.1, cell_later hb h.2.2.2.2.1, cell_later hb h.2.2.2.2.2.1, cell_later hb h.2.2.2.2.2.2.1, cell_later hb h.2.2.2.2.2.2.2⟩
/-- the best that was found, as it lies -/
def BestAt (W : World) (B bb : Nat) (o : Option En) : Prop := match o with
  | none => W.heap[bb]? = some (.cells #[.string ⟨#[]⟩, .int .i64 0, .int .i64 0, .slice none 0 0] 151 (0, 0))
  | some x => ∃ a c, W.heap[bb]? = some (.cells #[.string ⟨#[]⟩, .int .i64 x.amt, .int .i64 x.exp, .slice a x.hops.length c] 151 (0, 0)) ∧ RowsAt 4 hpC a x.hops W ∧ NewA B a ∧ x.hops.length ≤ 20
theorem BestAt.below {W W' : World} {B bb : Nat} {o : Option En} (h : BestAt W B bb o) (hb : Below W.heap.size W W') : BestAt W' B bb o := by
  cases o with
  | none => exact (hb.block bb (lt_of_heap h)).trans h
  | some x => obtain ⟨a, c, h1, h2, h3⟩ := h; exact ⟨a, c, (hb.block bb (lt_of_heap h1)).trans h1, h2.below hb, h3⟩
theorem BestAt.row {W : World} {B bb : Nat} {o : Option En} (h : BestAt W B bb o) : ∃ x y a n c, W.heap[bb]? = some (.cells #[.string ⟨#[]⟩, .int .i64 x, .int .i64 y, .slice a n c] 151 (0, 0)) := by
  cases o with
  | none => exact ⟨_, _, _, _, _, h⟩
  | some x => obtain ⟨a, c, h1, _⟩ := h; exact ⟨_, _, _, _, _, h1⟩
theorem hops_neS {o : Option Addr} {h : Hp} {l : List Hp} {W : World} {g : Nat} {a : ByteArray} {b c : Int} {sa : Option Addr} {sn sc : Nat} {t : TypeId} (hr : RowsAt 4 hpC o (h :: l) W) (hg : W.heap[g]? = some (.cells #[.string a, .int .i64 b, .int .i64 c, .slice sa sn sc] t (0, 0))) : ∀ k off, o = some ⟨k, off, none⟩ → k ≠ g := by
  rintro k off rfl rfl
  obtain ⟨k', off', e, hc⟩ := rows_at hr (i := 0) (x := h) rfl
  cases e
  have h1 := hc 1 _ rfl
  rw [cell_of_row _ _ _ _ _ _ hg] at h1
  have h2 : off + 0 * 4 + 1 = (off + 0) + 1 := by omega
  rw [h2] at h1
  rcases (show off + 0 = 0 ∨ off + 0 = 1 ∨ off + 0 = 2 ∨ 3 ≤ off + 0 by omega) with q | q | q | q
  · rw [q] at h1; cases h1
  · rw [q] at h1; cases h1
  · rw [q] at h1; cases h1
  · rw [Array.getElem?_eq_none (by simp; omega)] at h1; cases h1
theorem keep5 {w W : World} {b o0 c r0 r1 r2 r3 : Nat} {u0 v0 v1 v2 v3 : Value} (hb : Below w.heap.size w W) (h : w.cell? ⟨b, o0, none⟩ = some u0 ∧ w.cell? ⟨c, r0, none⟩ = some v0 ∧ w.cell? ⟨c, r1, none⟩ = some v1 ∧ w.cell? ⟨c, r2, none⟩ = some v2 ∧ w.cell? ⟨c, r3, none⟩ = some v3) :
    Below w.heap.size w W ∧ W.cell? ⟨b, o0, none⟩ = some u0 ∧ W.cell? ⟨c, r0, none⟩ = some v0 ∧ W.cell? ⟨c, r1, none⟩ = some v1 ∧ W.cell? ⟨c, r2, none⟩ = some v2 ∧ W.cell? ⟨c, r3, none⟩ = some v3 :=
  ⟨hb, cell_later hb h.1, cell_later hb h.2.1, cell_later hb h.2.2.1, cell_later hb h.2.2.2.1, cell_later hb h.2.2.2.2⟩
def startN (A : AskR) : Nd := ⟨A.dst, startE A, none, 0⟩
theorem start_needs {A : AskR} (hA : AskOk A) {B n g c : Nat} {W : World} (h : W.heap[g]? = some (.cells #[.string A.dst, .int .i64 A.amt, .int .i64 A.exp, .slice none 0 0] 151 (0, 0))) : NeedsAt B n (some ⟨g, 0, none⟩) [startN A] W := by
  have hg := good_one hA n
  have h1 := hg A.dst (startE A) (by simp [lookR])
  refine ⟨⟨.inr ⟨g, 0, rfl, fun k x hk j v hv => ?_⟩, fun t ht => .inl ?_⟩, fun t ht hh => ?_, fun t ht => ?_, by simp⟩
  · cases k with
    | succ k => simp at hk
    | zero =>
      cases hk
      rw [cell_of_row _ _ _ _ _ _ h]
      have : 0 + 0 * 4 + j = j := by omega
      rw [this]
      simpa [ndC, startN, startE] using hv
  · obtain rfl : t = startN A := by simpa using ht
    rfl
  · obtain rfl : t = startN A := by simpa using ht
    exact absurd rfl hh
  · obtain rfl : t = startN A := by simpa using ht
    exact h1
set_option maxRecDepth 100000 in
set_option maxHeartbeats 16000000 in
theorem dfind_yes (oe : Option Addr) (E : List Edg) (ce : Nat) (op : Option Addr) (P : List Plc) (cp : Nat) (A : AskR) (ob : Option Addr) (cb : Nat) (w : World) (hs1 : A.frm.size ≤ maxLen) (hs2 : A.dst.size ≤ maxLen)
    (hE : RowsAt 4 edgC oe E w) (hP : RowsAt 9 plcC op P w) (hB : StrsAt ob A.bad w) (h0 : refusedN isKey E P A = 0) : Calls Tryz.prog 21 #[.slice oe E.length ce, .slice op P.length cp, askV A ob cb] w (DFindPost (findN isKey E P A) w) := by
  have hf : findN isKey E P A = outF (findB P A (waysGo A.bad E)) := by unfold findN; rw [if_neg (by rw [h0]; decide)]
  rw [hf]
  have HN := Lib.hid (fun W (h : Below w.heap.size w W) => refused_any oe E ce op P cp A ob cb W hs1 hs2 (hE.below h) (hP.below h))
  rw [h0] at HN
  have HFi := Lib.hid (fine_of h0)
  have HCT := Lib.hid (fun W (h : Below w.heap.size w W) (i : Nat) (hi : i < E.length) => counts_any oe E ce i ob A.bad cb W hi (hE.below h) (by
    rcases hB with k | ⟨b, off, k1, k2⟩
    · exact .inl k
    · exact .inr ⟨b, off, k1, fun i s hi => cell_later' h (k2 i s hi)⟩) (by have := (fine_of h0).el; omega) (by have := (fine_of h0).bl; omega))
  have HGV := Lib.hid (fun W (h : Below w.heap.size w W) (e : Edg) (he : e ∈ E) (u : ByteArray) (t : Nd) (ht : NdAt W t) (hok : EnOk t.e) => gives_any e.chan e.a e.b e.cap op P cp u t W (hP.below h) (fine_of h0).plc (by have := (fine_of h0).pl; omega) ht hok ((fine_of h0).edg e he).1 ((fine_of h0).edg e he).2)
  obtain ⟨ways, hways⟩ : ∃ ws, waysGo A.bad E = ws := ⟨_, rfl⟩
  rw [hways]
  have HLEN : Hid (ways.length ≤ 512) := by rw [← hways]; have := ways_len E A.bad; have := (fine_of h0).el; show _ ≤ _; omega
  obtain ⟨out, hout⟩ : ∃ o, findB P A ways = o := ⟨_, rfl⟩
  rw [hout]
  have HOUT := Lib.hid hout
  have HWY := Lib.hid hways
  have HEE := Lib.hid hE
  have HA := Lib.hid (fine_of h0).ask
  have HEL := Lib.hid (fine_of h0).el
  clear h0 hf hE hP hB hs1 hs2 hout hways
  unfold askV at HN ⊢
  obtain ⟨bl, hbl⟩ : ∃ n, A.bad.length = n := ⟨_, rfl⟩
  rw [hbl] at HN HCT ⊢
  clear hbl
  go_enter Tryz.func21, Tryz.ntmps21
  go_wp2_with ((go_at_call 81; (with_reducible refine Calls.mono (HN.out _ (below_new' _ _)) ?_); rintro e w1 ⟨rfl, hb1⟩; have B1 : Hid (Below w.heap.size w w1) := btr (below_new' _ _) hb1; have K1 : Hid (w1.heap[w.heap.size]? = some (.cells (askC A ob bl cb) 45 (0, 0))) := (hb1.block _ (by simp)).trans (heap_alloc_at _ _); obtain ⟨a0, a1, a2, a3, a4, a5, a6, al⟩ := ask_at45 K1.out; clear hb1))
  have hb2 : Below w1.heap.size w1 (w1.alloc (.cells #[.string A.dst, .int .i64 A.amt, .int .i64 A.exp, .slice none 0 0] 151)) := below_new' _ _
  have HD : Hid (DfS w (askC A ob bl cb) w1.heap.size #[.string A.dst, .int .i64 A.amt, .int .i64 A.exp, .slice none 0 0] ((w1.alloc (.cells #[.string A.dst, .int .i64 A.amt, .int .i64 A.exp, .slice none 0 0] 151)).alloc (.cells #[.string A.dst, .int .i64 A.amt, .int .i64 A.exp, .slice none 0 0] 151))) := (show DfS w (askC A ob bl cb) w1.heap.size #[.string A.dst, .int .i64 A.amt, .int .i64 A.exp, .slice none 0 0] (w1.alloc (.cells #[.string A.dst, .int .i64 A.amt, .int .i64 A.exp, .slice none 0 0] 151)) from ⟨btr B1.out hb2, (hb2.block _ (lt_of_heap K1.out)).trans K1.out, heap_alloc_at _ _⟩).next (below_new' _ _)
  have HND : Hid (NeedsAt w.heap.size 0 (some ⟨w1.heap.size + 1, 0, none⟩) [startN A] ((w1.alloc (.cells #[.string A.dst, .int .i64 A.amt, .int .i64 A.exp, .slice none 0 0] 151)).alloc (.cells #[.string A.dst, .int .i64 A.amt, .int .i64 A.exp, .slice none 0 0] 151))) := start_needs (c := 0) HA.out (by
    have := heap_alloc_at (w1.alloc (.cells #[.string A.dst, .int .i64 A.amt, .int .i64 A.exp, .slice none 0 0] 151)) (.cells #[.string A.dst, .int .i64 A.amt, .int .i64 A.exp, .slice none 0 0] 151)
    simpa using this)
  clear hb2 a0 a1 a2 a3 a4 a5 a6 al K1 B1 HN
  generalize ((w1.alloc (.cells #[.string A.dst, .int .i64 A.amt, .int .i64 A.exp, .slice none 0 0] 151)).alloc (.cells #[.string A.dst, .int .i64 A.amt, .int .i64 A.exp, .slice none 0 0] 151)) = w2 at HD HND ⊢
  generalize w1.heap.size + 1 = r0 at HND ⊢
  generalize w1.heap.size = sb at HD ⊢
  clear w1
  go_loopw [11, 10] (fun iv lv wr => ∃ (m : Nat) (N : List Nd) (lo : Option Addr) (lc : Nat), m ≤ 19 ∧ iv = .int .i64 ((m : Int) + 1) ∧ lv = .slice lo N.length lc ∧ Hid (DfS w (askC A ob bl cb) sb #[.string A.dst, .int .i64 A.amt, .int .i64 A.exp, .slice none 0 0] wr) ∧ Hid (NeedsAt w.heap.size m lo N wr) ∧ Hid (N.map pairN = reachN P A ways m)) (fun iv _ _ => 20 - (intOf iv).toNat)
  case atStart => exact ⟨0, [startN A], some ⟨r0, 0, none⟩, 1, by omega, rfl, rfl, HD.out, HND.out, rfl⟩
  case round =>
    clear HD HND
    obtain ⟨m, N, lo, lc, hm, rfl, rfl, hD, hN, hR⟩ := hrel
    have HNL : Hid (N.length ≤ 513) := by
      have h1 := reach_len P A ways m
      rw [← hR.out, List.length_map] at h1
      have h2 := HLEN.out
      show _ ≤ _
      omega
    by_cases hlt : m < 19
    · have hm1 : (m : Int) + 1 < 20 := by omega
      have hm2 : (m : Int) < 19 := by omega
      obtain ⟨s0, s1, s2, s3, sl⟩ := cells4 hD.out.st_
      have HD3 : Hid (DfS w (askC A ob bl cb) sb #[.string A.dst, .int .i64 A.amt, .int .i64 A.exp, .slice none 0 0] (wr.alloc (.cells #[.string A.dst, .int .i64 A.amt, .int .i64 A.exp, .slice none 0 0] 151))) := hD.out.next (below_new' _ _)
      have HN3 : Hid (NeedsAt w.heap.size m lo N (wr.alloc (.cells #[.string A.dst, .int .i64 A.amt, .int .i64 A.exp, .slice none 0 0] 151))) := hN.out.below (below_new' _ _)
      have HX3 : Hid (NeedsAt w.heap.size (m + 1) (some ⟨wr.heap.size, 0, none⟩) [startN A] (wr.alloc (.cells #[.string A.dst, .int .i64 A.amt, .int .i64 A.exp, .slice none 0 0] 151))) := start_needs (c := 0) HA.out (heap_alloc_at _ _)
      clear hD hN
      go_wp2_with fail
      clear s0 s1 s2 s3 sl
      generalize (wr.alloc (.cells #[.string A.dst, .int .i64 A.amt, .int .i64 A.exp, .slice none 0 0] 151)) = w3 at HD3 HN3 HX3 ⊢
      generalize wr.heap.size = r1 at HX3 ⊢
      go_loopw [13, 12] (fun iv nv wr => ∃ (i : Nat) (M : List Nd) (mo : Option Addr) (mc : Nat), i ≤ E.length ∧ iv = .int .i64 i ∧ nv = .slice mo M.length mc ∧ Hid (DfS w (askC A ob bl cb) sb #[.string A.dst, .int .i64 A.amt, .int .i64 A.exp, .slice none 0 0] wr) ∧ Hid (NeedsAt w.heap.size m lo N wr) ∧ Hid (NeedsAt w.heap.size (m + 1) mo M wr) ∧ Hid (M.map pairN = ((waysGo A.bad (E.take i)).foldl (stepW P A (reachN P A ways m)) [(A.dst, startE A)]))) (fun iv _ _ => E.length - (intOf iv).toNat)
      case atStart => exact ⟨0, [startN A], some ⟨r1, 0, none⟩, 1, Nat.zero_le _, rfl, rfl, HD3.out, HN3.out, HX3.out, rfl⟩
      case round =>
        clear HD3 HN3 HX3
        obtain ⟨i, M, mo, mc, hi, rfl, rfl, hD, hN, hM, hF⟩ := hrel
        by_cases hlt2 : i < E.length
        · obtain ⟨e, he⟩ : ∃ e, E[i]? = some e := ⟨_, List.getElem?_eq_getElem hlt2⟩
          as_aux_lemma =>
          have hii : (i : Int) < (E.length : Int) := by omega
          have hii2 : (E.length : Int) ≤ 256 := by have := HEL.out; omega
          have HEM := Lib.hid (List.mem_of_getElem? he)
          have HWT := Lib.hid (ways_take E A.bad he)
          obtain ⟨eb, eo, rfl, hc⟩ := rows_at HEE.out he
          have HC0 : Hid (w.cell? ⟨eb, eo + i * 4, none⟩ = some (.string e.chan)) := hc 0 _ rfl
          have HC1 : Hid (w.cell? ⟨eb, eo + i * 4 + 1, none⟩ = some (.string e.a)) := hc 1 _ rfl
          have HC2 : Hid (w.cell? ⟨eb, eo + i * 4 + 2, none⟩ = some (.string e.b)) := hc 2 _ rfl
          have HC3 : Hid (w.cell? ⟨eb, eo + i * 4 + 3, none⟩ = some (.int .i64 e.cap)) := hc 3 _ rfl
          have HML : Hid (M.length ≤ 513) := by
            have h1 := fold_lenW P A (reachN P A ways m) (waysGo A.bad (E.take i)) [(A.dst, startE A)]
            rw [← hF.out, List.length_map] at h1
            have h2 := ways_len (E.take i) A.bad
            rw [List.length_take] at h2
            have h3 := HEL.out
            simp only [List.length_cons, List.length_nil] at h1
            show _ ≤ _
            omega
          have HILT := Lib.hid hlt2
          clear hc he hi
          go_wp2_with fail
          go_loopw [14, 12] (fun jv nv wr => ∃ (j : Nat) (M : List Nd) (mo : Option Addr) (mc : Nat), j ≤ 2 ∧ jv = .int .i64 j ∧ nv = .slice mo M.length mc ∧ (j = 0 ∨ countsB E A.bad i = true) ∧ Hid (DfS w (askC A ob bl cb) sb #[.string A.dst, .int .i64 A.amt, .int .i64 A.exp, .slice none 0 0] wr) ∧ Hid (NeedsAt w.heap.size m lo N wr) ∧ Hid (NeedsAt w.heap.size (m + 1) mo M wr) ∧ Hid (M.map pairN = (([wayE e 0, wayE e 1].take j).foldl (stepW P A (reachN P A ways m)) ((waysGo A.bad (E.take i)).foldl (stepW P A (reachN P A ways m)) [(A.dst, startE A)])))) (fun jv _ _ => 2 - (intOf jv).toNat)
          case atStart => exact ⟨0, M, mo, mc, by omega, rfl, rfl, .inl rfl, hD.out, hN.out, hM.out, hF.out⟩
          case round =>
            clear hD hN hM hF HML
            obtain ⟨j, M, mo, mc, hj, rfl, rfl, hjc, hD, hN, hM, hF⟩ := hrel
            obtain ⟨a0, a1, a2, a3, a4, a5, a6, al⟩ := ask_at45 hD.out.box
            by_cases hj2 : j < 2
            · have hjj : (j : Int) < 2 := by omega
              cases hcb : countsB E A.bad i with
              | false =>
                have HCF : Hid (∀ W, Below w.heap.size w W → Calls Tryz.prog 82 #[.slice (some ⟨eb, eo, none⟩) E.length ce, .int .i64 i, .slice ob bl cb] W fun e w' => e = .returned (.bool false) ∧ Below W.heap.size W w') := fun W h => by
                  have := HCT.out W h i HILT.out
                  rw [hcb] at this; exact this
                have hj0 : j = 0 := hjc.resolve_right (by rw [hcb]; decide)
                have HEX : Hid (M.map pairN = (waysGo A.bad (E.take (i + 1))).foldl (stepW P A (reachN P A ways m)) [(A.dst, startE A)]) := by
                  show _ = _
                  rw [HWT.out, hcb, hF.out, hj0]; simp
                have HDN := Lib.hid (fun (W : World) (h : Below wr.heap.size wr W) => hD.out.next h)
                have HNN := Lib.hid (fun (W : World) (h : Below wr.heap.size wr W) => hN.out.below h)
                have HMN := Lib.hid (fun (W : World) (h : Below wr.heap.size wr W) => hM.out.below h)
                clear hcb hj hj0 hjc hF
                go_wp2_with ((go_at_call 82; (with_reducible refine Calls.mono (HCF.out _ hD.out.bel) ?_); rintro e6 w6 ⟨rfl, hb6⟩; have D6 := Lib.hid (HDN.out _ hb6); have N6 := Lib.hid (HNN.out _ hb6); have M6 := Lib.hid (HMN.out _ hb6); clear hb6))
                go_roundw
                case rel => exact ⟨i + 1, M, mo, mc, HILT.out, by rw [Int.natCast_succ], rfl, D6.out, N6.out, M6.out, HEX.out⟩
                case measure => have := HILT.out; simp only [intOf]; omega
              | true =>
                have HCF : Hid (∀ W, Below w.heap.size w W → Calls Tryz.prog 82 #[.slice (some ⟨eb, eo, none⟩) E.length ce, .int .i64 i, .slice ob bl cb] W fun e w' => e = .returned (.bool true) ∧ Below W.heap.size W w') := fun W h => by
                  have := HCT.out W h i HILT.out
                  rw [hcb] at this; exact this
                have HDN := Lib.hid (fun (W : World) (h : Below wr.heap.size wr W) => hD.out.next h)
                have HNN := Lib.hid (fun (W : World) (h : Below wr.heap.size wr W) => hN.out.below h)
                have HMN := Lib.hid (fun (W : World) (h : Below wr.heap.size wr W) => hM.out.below h)
                have HEN : Hid (∀ W, Calls Tryz.prog 83 #[.agg #[.string e.chan, .string e.a, .string e.b, .int .i64 e.cap], .int .i64 (j : Int)] W fun ee w' => ee = .returned (.tuple #[.string (wayE e j).frm, .string (wayE e j).dst]) ∧ Below W.heap.size W w') := fun W => ends_any e j W
                have HWE : Hid (wayE e j = ⟨e.chan, e.cap, (wayE e j).frm, (wayE e j).dst⟩) := by
                  show _ = _
                  unfold wayE; split <;> rfl
                have HB4 : Hid ((([wayE e 0, wayE e 1].take (j + 1)).foldl (stepW P A (reachN P A ways m)) ((waysGo A.bad (E.take i)).foldl (stepW P A (reachN P A ways m)) [(A.dst, startE A)])) = stepW P A (reachN P A ways m) (([wayE e 0, wayE e 1].take j).foldl (stepW P A (reachN P A ways m)) ((waysGo A.bad (E.take i)).foldl (stepW P A (reachN P A ways m)) [(A.dst, startE A)])) (wayE e j)) := by
                  refine fold_take _ _ ?_
                  rcases (show j = 0 ∨ j = 1 by omega) with h | h <;> (rw [h]; rfl)
                have HJ := Lib.hid hj2
                have HCB := Lib.hid hcb
                clear hcb hj hjc
                go_wp2_with (first
                  | (go_at_call 82; (with_reducible refine Calls.mono (HCF.out _ hD.out.bel) ?_); rintro e6 w6 ⟨rfl, hb6⟩; have B6 := Lib.hid hb6; have D6 := Lib.hid (HDN.out _ hb6); have c0 := cell_later' D6.out.bel HC0.out; have c1 := cell_later' D6.out.bel HC1.out; have c2 := cell_later' D6.out.bel HC2.out; have c3 := cell_later' D6.out.bel HC3.out; clear hb6)
                  | (go_at_call 83; (with_reducible refine Calls.mono (HEN.out _) ?_); rintro e7 w7 ⟨rfl, hb7⟩; have B7 := Lib.hid (btr B6.out hb7); clear hb7))
                clear c0 c1 c2 c3 a0 a1 a2 a3 a4 a5 a6 al hjj
                have D7 := Lib.hid (HDN.out _ B7.out)
                have N7 := Lib.hid (HNN.out _ B7.out)
                have M7 := Lib.hid (HMN.out _ B7.out)
                clear HDN HNN HMN hD hN hM B6 D6 B7
                obtain ⟨wq, hwq⟩ : ∃ q, wayE e j = q := ⟨_, rfl⟩
                rw [hwq] at HWE HB4 HEN ⊢
                clear hwq HEN
                obtain ⟨wc, wk, u, v⟩ := wq
                dsimp only at HWE ⊢
                have hwe := HWE.out
                simp only [Rte.Way.mk.injEq, and_true] at hwe
                obtain ⟨rfl, rfl⟩ := hwe
                clear HWE
                go_loopw [17, 12] (fun kv nv wr => ∃ (k : Nat) (M : List Nd) (mo : Option Addr) (mc : Nat), k ≤ N.length ∧ kv = .int .i64 k ∧ nv = .slice mo M.length mc ∧ (k = 0 ∨ ¬ (u = A.frm ∨ u = A.dst)) ∧ Hid (DfS w (askC A ob bl cb) sb #[.string A.dst, .int .i64 A.amt, .int .i64 A.exp, .slice none 0 0] wr) ∧ Hid (NeedsAt w.heap.size m lo N wr) ∧ Hid (NeedsAt w.heap.size (m + 1) mo M wr) ∧ Hid (M.map pairN = ((N.take k).map pairN).foldl (stepK P ⟨e.chan, e.cap, u, v⟩) (([wayE e 0, wayE e 1].take j).foldl (stepW P A (reachN P A ways m)) ((waysGo A.bad (E.take i)).foldl (stepW P A (reachN P A ways m)) [(A.dst, startE A)])))) (fun kv _ _ => N.length - (intOf kv).toNat)
                case atStart => exact ⟨0, M, mo, mc, Nat.zero_le _, rfl, rfl, .inl rfl, D7.out, N7.out, M7.out, hF.out⟩
                case round =>
                  clear D7 N7 M7 hF
                  obtain ⟨k, M, mo, mc, hk, rfl, rfl, hkc, hD, hN, hM, hF⟩ := hrel
                  obtain ⟨a0, a1, a2, a3, a4, a5, a6, al⟩ := ask_at45 hD.out.box
                  obtain ⟨af, haf⟩ : ∃ q, A.frm = q := ⟨_, rfl⟩
                  obtain ⟨ad, had⟩ : ∃ q, A.dst = q := ⟨_, rfl⟩
                  have HAF := Lib.hid haf
                  have HAD := Lib.hid had
                  rw [haf] at a0
                  rw [had] at a1
                  by_cases hlt4 : k < N.length
                  · have hkk : (k : Int) < (N.length : Int) := by omega
                    have hkk2 : (N.length : Int) ≤ 513 := by have := HNL.out; omega
                    by_cases hbad : u = af ∨ u = ad
                    · have hk0 : k = 0 := hkc.resolve_right (fun h => h (by rw [haf, had]; exact hbad))
                      have HEX : Hid (M.map pairN = (([wayE e 0, wayE e 1].take (j + 1)).foldl (stepW P A (reachN P A ways m)) ((waysGo A.bad (E.take i)).foldl (stepW P A (reachN P A ways m)) [(A.dst, startE A)]))) := by
                        show _ = _
                        rw [HB4.out, ← stepD_eq _ _ _ _ _ (nodup_reach P A ways m), hF.out, hk0]
                        unfold stepD
                        rw [if_pos (by rw [haf, had]; exact hbad)]; rfl
                      clear hk0 hkc hF haf had hk
                      by_cases g1 : u = af
                      · subst g1
                        clear hbad
                        go_wp2_with fail
                        go_roundw
                        case rel => exact ⟨j + 1, M, mo, mc, by have := HJ.out; omega, by rw [Int.natCast_succ], rfl, (by first | exact .inr HCB.out | exact .inr trivial), hD.out, hN.out, hM.out, HEX.out⟩
                        case measure => have := HJ.out; simp only [intOf]; omega
                      · have q1 := toList_ne g1
                        have g2 := hbad.resolve_left g1
                        subst g2
                        clear hbad g1
                        go_wp2_with fail
                        go_roundw
                        case rel => exact ⟨j + 1, M, mo, mc, by have := HJ.out; omega, by rw [Int.natCast_succ], rfl, (by first | exact .inr HCB.out | exact .inr trivial), hD.out, hN.out, hM.out, HEX.out⟩
                        case measure => have := HJ.out; simp only [intOf]; omega
                    · have q1 := toList_ne (fun h => hbad (.inl h) : u ≠ af)
                      have q2 := toList_ne (fun h => hbad (.inr h) : u ≠ ad)
                      obtain ⟨t, ht⟩ : ∃ t, N[k]? = some t := ⟨_, List.getElem?_eq_getElem hlt4⟩
                      have htm := List.mem_of_getElem? ht
                      obtain ⟨nb, no, hlo, hnc⟩ := rows_at hN.out.at_.1 ht
                      subst hlo
                      have x0 : wr.cell? ⟨nb, no + k * 4, none⟩ = some (.string t.node) := hnc 0 _ rfl
                      have x1 : wr.cell? ⟨nb, no + k * 4 + 1, none⟩ = some (.int .i64 t.e.amt) := hnc 1 _ rfl
                      have x2 : wr.cell? ⟨nb, no + k * 4 + 2, none⟩ = some (.int .i64 t.e.exp) := hnc 2 _ rfl
                      have x3 : wr.cell? ⟨nb, no + k * 4 + 3, none⟩ = some (.slice t.o t.e.hops.length t.c) := hnc 3 _ rfl
                      have c0 := cell_later' hD.out.bel HC0.out
                      have c1 := cell_later' hD.out.bel HC1.out
                      have c2 := cell_later' hD.out.bel HC2.out
                      have c3 := cell_later' hD.out.bel HC3.out
                      have HCC := Lib.hid (And.intro c0 (And.intro c1 (And.intro c2 (And.intro c3 (And.intro x0 (And.intro x1 (And.intro x2 x3)))))))
                      have HTA := Lib.hid (hN.out.at_.2 t htm)
                      obtain ⟨tok, tlen⟩ := hN.out.ok t htm
                      have HTK := Lib.hid tok
                      have HTL := Lib.hid tlen
                      have HTN := Lib.hid (hN.out.new t htm)
                      have HNBAD : Hid (¬ (u = A.frm ∨ u = A.dst)) := by show ¬ _; rw [haf, had]; exact hbad
                      have HFK : Hid (((N.take (k + 1)).map pairN).foldl (stepK P ⟨e.chan, e.cap, u, v⟩) (([wayE e 0, wayE e 1].take j).foldl (stepW P A (reachN P A ways m)) ((waysGo A.bad (E.take i)).foldl (stepW P A (reachN P A ways m)) [(A.dst, startE A)])) = stepK P ⟨e.chan, e.cap, u, v⟩ (M.map pairN) (pairN t)) := by
                        show _ = _
                        rw [List.take_add_one, ht, List.map_append, List.foldl_append, ← hF.out]; rfl
                      have HGB : Hid (∀ W, Below wr.heap.size wr W → Calls Tryz.prog 84 #[.agg #[.string e.chan, .string e.a, .string e.b, .int .i64 e.cap], .slice op P.length cp, .string u, .agg #[.string t.node, .int .i64 t.e.amt, .int .i64 t.e.exp, .slice t.o t.e.hops.length t.c]] W (GivesPost (givesW P ⟨e.chan, e.cap, u, t.node⟩ t.e) u W)) := fun W h => HGV.out W (btr hD.out.bel h) e HEM.out u t (HTA.out.below h) HTK.out
                      have HFK0 : Hid (M.length ≤ 3000) := by
                        have h1 := fold_lenK P ⟨e.chan, e.cap, u, v⟩ ((N.take k).map pairN) (([wayE e 0, wayE e 1].take j).foldl (stepW P A (reachN P A ways m)) ((waysGo A.bad (E.take i)).foldl (stepW P A (reachN P A ways m)) [(A.dst, startE A)]))
                        rw [← hF.out, List.length_map, List.length_map, List.length_take] at h1
                        have h2 := fold_lenW P A (reachN P A ways m) ([wayE e 0, wayE e 1].take j) ((waysGo A.bad (E.take i)).foldl (stepW P A (reachN P A ways m)) [(A.dst, startE A)])
                        have h3 := fold_lenW P A (reachN P A ways m) (waysGo A.bad (E.take i)) [(A.dst, startE A)]
                        have h4 := ways_len (E.take i) A.bad
                        rw [List.length_take] at h2 h4
                        have h5 := HEL.out
                        have h6 := HNL.out
                        simp only [List.length_cons, List.length_nil] at h2 h3
                        show _ ≤ _
                        omega
                      clear hbad haf had hkc ht htm hnc tok tlen hF hk
                      go_wp2_with fail
                      cases hgo : givesW P ⟨e.chan, e.cap, u, t.node⟩ t.e with
                      | none =>
                        have HSK : Hid (M.map pairN = ((N.take (k + 1)).map pairN).foldl (stepK P ⟨e.chan, e.cap, u, v⟩) (([wayE e 0, wayE e 1].take j).foldl (stepW P A (reachN P A ways m)) ((waysGo A.bad (E.take i)).foldl (stepW P A (reachN P A ways m)) [(A.dst, startE A)]))) := by
                          show _ = _
                          rw [HFK.out]
                          unfold stepK pairN
                          dsimp only
                          by_cases hnv : t.node = v
                          · rw [if_pos hnv, ← hnv, hgo]
                          · rw [if_neg hnv]
                        have HGA : Hid (Calls Tryz.prog 84 #[.agg #[.string e.chan, .string e.a, .string e.b, .int .i64 e.cap], .slice op P.length cp, .string u, .agg #[.string t.node, .int .i64 t.e.amt, .int .i64 t.e.exp, .slice t.o t.e.hops.length t.c]] (wr.alloc (.cells #[.string ⟨#[]⟩, .int .i64 0, .int .i64 0, .slice none 0 0] 151)).drew fun ee w' => ee = .returned (.tuple #[.agg #[.string ⟨#[]⟩, .int .i64 0, .int .i64 0, .slice none 0 0], .bool false]) ∧ Below wr.heap.size wr w' ∧ w'.heap[wr.heap.size]? = some (.cells #[.string ⟨#[]⟩, .int .i64 0, .int .i64 0, .slice none 0 0] 151 (0, 0))) := (HGB.out _ (below_new' wr (.cells #[.string ⟨#[]⟩, .int .i64 0, .int .i64 0, .slice none 0 0] 151)).drew).mono fun ee w' q => by
                          rw [hgo] at q
                          exact ⟨q.2, btr (below_new' wr (.cells #[.string ⟨#[]⟩, .int .i64 0, .int .i64 0, .slice none 0 0] 151)).drew q.1, (q.1.block _ (by simp)).trans (heap_alloc_at wr _)⟩
                        have HGN : Hid (Calls Tryz.prog 84 #[.agg #[.string e.chan, .string e.a, .string e.b, .int .i64 e.cap], .slice op P.length cp, .string u, .agg #[.string t.node, .int .i64 t.e.amt, .int .i64 t.e.exp, .slice t.o t.e.hops.length t.c]] wr.drew fun ee w' => ee = .returned (.tuple #[.agg #[.string ⟨#[]⟩, .int .i64 0, .int .i64 0, .slice none 0 0], .bool false]) ∧ Below wr.heap.size wr w') := (HGB.out _ (Below.refl _ _).drew).mono fun ee w' q => by
                          rw [hgo] at q
                          exact ⟨q.2, btr (Below.refl _ _).drew q.1⟩
                        clear hgo HFK
                        go_region_held3 (fun W => Below wr.heap.size wr W ∧ W.cell? ⟨eb, eo + i * 4, none⟩ = some (.string e.chan) ∧ W.cell? ⟨eb, eo + i * 4 + 1, none⟩ = some (.string e.a) ∧ W.cell? ⟨eb, eo + i * 4 + 2, none⟩ = some (.string e.b) ∧ W.cell? ⟨eb, eo + i * 4 + 3, none⟩ = some (.int .i64 e.cap) ∧ W.cell? ⟨nb, no + k * 4, none⟩ = some (.string t.node) ∧ W.cell? ⟨nb, no + k * 4 + 1, none⟩ = some (.int .i64 t.e.amt) ∧ W.cell? ⟨nb, no + k * 4 + 2, none⟩ = some (.int .i64 t.e.exp) ∧ W.cell? ⟨nb, no + k * 4 + 3, none⟩ = some (.slice t.o t.e.hops.length t.c))
                          ((go_split_ands; exact keep8 (by (repeat' (first | (with_reducible exact Below.refl _ _) | (with_reducible assumption) | (with_reducible refine Below.alloc ?_ ?_ _) | (with_reducible refine Below.drew ?_) | (with_reducible refine Below.setCell ?_ ?_ _) | (with_reducible refine bdN ?_ _) | assumption | go_size | (simp; omega)))) HCC.out))
                          ((first
                            | (go_at_call 84; (with_reducible refine Calls.mono HGA.out ?_); rintro e8 w8 ⟨rfl, hb8, hk8⟩; have hs8 := hb8.size; obtain ⟨y0, y1, y2, y3, yl⟩ := cells4 hk8; have f0 := froz9 hk8 0; have f1 := froz9 hk8 1; have f2 := froz9 hk8 2; have f3 := froz9 hk8 3)
                            | (go_at_call 84; (with_reducible refine Calls.mono HGN.out ?_); rintro e8 w8 ⟨rfl, hb8⟩; have hs8 := hb8.size)))
                        · have hb9 : Below wr.heap.size wr (w8.alloc (.cells #[.string ⟨#[]⟩, .int .i64 0, .int .i64 0, .slice none 0 0] 151)) := btr hb8 (below_new' w8 _)
                          clear hb8 hs8
                          generalize (w8.alloc (.cells #[.string ⟨#[]⟩, .int .i64 0, .int .i64 0, .slice none 0 0] 151)) = w9 at hb9 ⊢
                          have y0' : w9.cell? ⟨nb, no + k * 4, none⟩ = some (.string t.node) := cell_later' hb9 x0
                          have D9 := Lib.hid (hD.out.next hb9)
                          have N9 := Lib.hid (hN.out.below hb9)
                          have M9 := Lib.hid (hM.out.below hb9)
                          clear hb9 x0 x1 x2 x3 c0 c1 c2 c3 a0 a1 a2 a3 a4 a5 a6 al q1 q2
                          by_cases hnv : t.node = v
                          · subst hnv
                            go_wp2_with fail
                            go_roundw
                            case rel => exact ⟨k + 1, M, mo, mc, by omega, by rw [Int.natCast_succ], rfl, .inr HNBAD.out, D9.out, N9.out, M9.out, HSK.out⟩
                            case measure => simp only [intOf]; omega
                          · have q3 := toList_ne hnv
                            clear hnv
                            go_wp2_with fail
                            go_roundw
                            case rel => exact ⟨k + 1, M, mo, mc, by omega, by rw [Int.natCast_succ], rfl, .inr HNBAD.out, D9.out, N9.out, M9.out, HSK.out⟩
                            case measure => simp only [intOf]; omega
                        · have hb9 : Below wr.heap.size wr ((((w8.setCell ⟨wr.heap.size, 0, none⟩ (.string ⟨#[]⟩)).setCell ⟨wr.heap.size, 1, none⟩ (.int .i64 0)).setCell ⟨wr.heap.size, 2, none⟩ (.int .i64 0)).setCell ⟨wr.heap.size, 3, none⟩ (.slice none 0 0)) := below_fr hb8 fr4_set (Nat.le_refl _) hs8
                          clear hb8 hs8 hk8 y0 y1 y2 y3 yl f0 f1 f2 f3
                          generalize ((((w8.setCell ⟨wr.heap.size, 0, none⟩ (.string ⟨#[]⟩)).setCell ⟨wr.heap.size, 1, none⟩ (.int .i64 0)).setCell ⟨wr.heap.size, 2, none⟩ (.int .i64 0)).setCell ⟨wr.heap.size, 3, none⟩ (.slice none 0 0)) = w9 at hb9 ⊢
                          have y0' : w9.cell? ⟨nb, no + k * 4, none⟩ = some (.string t.node) := cell_later' hb9 x0
                          have D9 := Lib.hid (hD.out.next hb9)
                          have N9 := Lib.hid (hN.out.below hb9)
                          have M9 := Lib.hid (hM.out.below hb9)
                          clear hb9 x0 x1 x2 x3 c0 c1 c2 c3 a0 a1 a2 a3 a4 a5 a6 al q1 q2
                          by_cases hnv : t.node = v
                          · subst hnv
                            go_wp2_with fail
                            go_roundw
                            case rel => exact ⟨k + 1, M, mo, mc, by omega, by rw [Int.natCast_succ], rfl, .inr HNBAD.out, D9.out, N9.out, M9.out, HSK.out⟩
                            case measure => simp only [intOf]; omega
                          · have q3 := toList_ne hnv
                            clear hnv
                            go_wp2_with fail
                            go_roundw
                            case rel => exact ⟨k + 1, M, mo, mc, by omega, by rw [Int.natCast_succ], rfl, .inr HNBAD.out, D9.out, N9.out, M9.out, HSK.out⟩
                            case measure => simp only [intOf]; omega
                      | some z =>
                        have HSK : Hid (((N.take (k + 1)).map pairN).foldl (stepK P ⟨e.chan, e.cap, u, v⟩) (([wayE e 0, wayE e 1].take j).foldl (stepW P A (reachN P A ways m)) ((waysGo A.bad (E.take i)).foldl (stepW P A (reachN P A ways m)) [(A.dst, startE A)])) = if t.node = v then putR (M.map pairN) u z else M.map pairN) := by
                          show _ = _
                          rw [HFK.out]
                          unfold stepK pairN
                          dsimp only
                          by_cases hnv : t.node = v
                          · rw [if_pos hnv, if_pos hnv, ← hnv, hgo]
                          · rw [if_neg hnv, if_neg hnv]
                        have hbz : beforeW P ⟨e.chan, e.cap, u, t.node⟩ t.e = some z := by
                          unfold givesW at hgo
                          split at hgo
                          · cases hgo
                          · exact hgo
                        have HZK := Lib.hid (bef_ok HFi.out.plc HTK.out HTL.out (by omega) hbz)
                        obtain ⟨zh, zt, hzc⟩ : ∃ h l, z.hops = h :: l := by
                          obtain ⟨_, p', _, hbp⟩ := (bef_iff ..).1 hbz
                          obtain ⟨_, _, _, g', _, _, hzz⟩ := (befP_iff ..).1 hbp
                          rw [hzz]; exact ⟨_, _, rfl⟩
                        have HZC := Lib.hid hzc
                        have HML : Hid (M.length ≤ 3000) := by
                          have h1 := HFK0.out
                          show _ ≤ _
                          omega
                        have HGA : Hid (Calls Tryz.prog 84 #[.agg #[.string e.chan, .string e.a, .string e.b, .int .i64 e.cap], .slice op P.length cp, .string u, .agg #[.string t.node, .int .i64 t.e.amt, .int .i64 t.e.exp, .slice t.o t.e.hops.length t.c]] (wr.alloc (.cells #[.string ⟨#[]⟩, .int .i64 0, .int .i64 0, .slice none 0 0] 151)).drew fun ee w' => ∃ oo oc, ee = .returned (.tuple #[.agg #[.string u, .int .i64 z.amt, .int .i64 z.exp, .slice oo z.hops.length oc], .bool true]) ∧ Below wr.heap.size wr w' ∧ w'.heap[wr.heap.size]? = some (.cells #[.string ⟨#[]⟩, .int .i64 0, .int .i64 0, .slice none 0 0] 151 (0, 0)) ∧ RowsAt 4 hpC oo z.hops w' ∧ NewA w.heap.size oo) := (HGB.out _ (below_new' wr (.cells #[.string ⟨#[]⟩, .int .i64 0, .int .i64 0, .slice none 0 0] 151)).drew).mono fun ee w' q => by
                          rw [hgo] at q
                          obtain ⟨q0, oo, oc, q1, q2, q3⟩ := q
                          exact ⟨oo, oc, q1, btr (below_new' wr (.cells #[.string ⟨#[]⟩, .int .i64 0, .int .i64 0, .slice none 0 0] 151)).drew q0, (q0.block _ (by simp)).trans (heap_alloc_at wr _), q2, q3.weak (by have := hD.out.bel.size; simp; omega)⟩
                        have HGN : Hid (Calls Tryz.prog 84 #[.agg #[.string e.chan, .string e.a, .string e.b, .int .i64 e.cap], .slice op P.length cp, .string u, .agg #[.string t.node, .int .i64 t.e.amt, .int .i64 t.e.exp, .slice t.o t.e.hops.length t.c]] wr.drew fun ee w' => ∃ oo oc, ee = .returned (.tuple #[.agg #[.string u, .int .i64 z.amt, .int .i64 z.exp, .slice oo z.hops.length oc], .bool true]) ∧ Below wr.heap.size wr w' ∧ RowsAt 4 hpC oo z.hops w' ∧ NewA w.heap.size oo) := (HGB.out _ (Below.refl _ _).drew).mono fun ee w' q => by
                          rw [hgo] at q
                          obtain ⟨q0, oo, oc, q1, q2, q3⟩ := q
                          exact ⟨oo, oc, q1, btr (Below.refl _ _).drew q0, q2, q3.weak hD.out.bel.size⟩
                        clear hgo HFK hbz hzc
                        go_region_held3 (fun W => Below wr.heap.size wr W ∧ W.cell? ⟨eb, eo + i * 4, none⟩ = some (.string e.chan) ∧ W.cell? ⟨eb, eo + i * 4 + 1, none⟩ = some (.string e.a) ∧ W.cell? ⟨eb, eo + i * 4 + 2, none⟩ = some (.string e.b) ∧ W.cell? ⟨eb, eo + i * 4 + 3, none⟩ = some (.int .i64 e.cap) ∧ W.cell? ⟨nb, no + k * 4, none⟩ = some (.string t.node) ∧ W.cell? ⟨nb, no + k * 4 + 1, none⟩ = some (.int .i64 t.e.amt) ∧ W.cell? ⟨nb, no + k * 4 + 2, none⟩ = some (.int .i64 t.e.exp) ∧ W.cell? ⟨nb, no + k * 4 + 3, none⟩ = some (.slice t.o t.e.hops.length t.c))
                          ((go_split_ands; exact keep8 (by (repeat' (first | (with_reducible exact Below.refl _ _) | (with_reducible assumption) | (with_reducible refine Below.alloc ?_ ?_ _) | (with_reducible refine Below.drew ?_) | (with_reducible refine Below.setCell ?_ ?_ _) | (with_reducible refine bdN ?_ _) | assumption | go_size | (simp; omega)))) HCC.out))
                          ((first
                            | (go_at_call 84; (with_reducible refine Calls.mono HGA.out ?_); rintro e8 w8 ⟨oo, oc, rfl, hb8, hk8, hr8, hn8⟩; have HNEW := Lib.hid hn8; have R8 := Lib.hid hr8; clear hr8 hn8; have hs8 := hb8.size; obtain ⟨y0, y1, y2, y3, yl⟩ := cells4 hk8; have f0 := froz9 hk8 0; have f1 := froz9 hk8 1; have f2 := froz9 hk8 2; have f3 := froz9 hk8 3)
                            | (go_at_call 84; (with_reducible refine Calls.mono HGN.out ?_); rintro e8 w8 ⟨oo, oc, rfl, hb8, hr8, hn8⟩; have HNEW := Lib.hid hn8; have R8 := Lib.hid hr8; clear hr8 hn8; have hs8 := hb8.size)))
                        · have hb9 : Below wr.heap.size wr (w8.alloc (.cells #[.string u, .int .i64 z.amt, .int .i64 z.exp, .slice oo z.hops.length oc] 151)) := btr hb8 (below_new' w8 _)
                          have hr9 : RowsAt 4 hpC oo z.hops (w8.alloc (.cells #[.string u, .int .i64 z.amt, .int .i64 z.exp, .slice oo z.hops.length oc] 151)) := R8.out.below (below_new' w8 _)
                          have hx9 : (w8.alloc (.cells #[.string u, .int .i64 z.amt, .int .i64 z.exp, .slice oo z.hops.length oc] 151)).heap[w8.heap.size]? = some (.cells #[.string u, .int .i64 z.amt, .int .i64 z.exp, .slice oo z.hops.length oc] 151 (0, 0)) := heap_alloc_at _ _
                          clear hb8 hs8
                          generalize (w8.alloc (.cells #[.string u, .int .i64 z.amt, .int .i64 z.exp, .slice oo z.hops.length oc] 151)) = w9 at hb9 hr9 hx9 ⊢
                          generalize w8.heap.size = xb at hx9 ⊢
                          have y0' : w9.cell? ⟨nb, no + k * 4, none⟩ = some (.string t.node) := cell_later' hb9 x0
                          have D9 := Lib.hid (hD.out.next hb9)
                          have N9 := Lib.hid (hN.out.below hb9)
                          have M9 := Lib.hid (hM.out.below hb9)
                          have HR9 := Lib.hid hr9
                          obtain ⟨y0, y1, y2, y3, yl⟩ := cells4 hx9
                          clear hb9 hr9 hx9 x0 x1 x2 x3 c0 c1 c2 c3 a0 a1 a2 a3 a4 a5 a6 al q1 q2
                          by_cases hnv : t.node = v
                          · subst hnv
                            have HPUT : Hid (Calls Tryz.prog 85 #[.slice mo M.length mc, .agg #[.string u, .int .i64 z.amt, .int .i64 z.exp, .slice oo z.hops.length oc]] w9 (NdsPost (putNd M ⟨u, z, oo, oc⟩) w9)) := put_any mo M mc ⟨u, z, oo, oc⟩ w9 M9.out.at_ HR9.out (by have := HML.out; omega) (fun t' ht' => by have := (M9.out.ok t' ht').2; omega) (by have := HZK.out.2; dsimp only; omega)
                            have HDN9 := Lib.hid (fun (W : World) (h : Below w9.heap.size w9 W) => D9.out.next h)
                            have HNN9 := Lib.hid (fun (W : World) (h : Below w9.heap.size w9 W) => N9.out.below h)
                            have HMN9 : Hid (∀ (W : World) (o' : Option Addr), NdsAt o' (putNd M ⟨u, z, oo, oc⟩) W → NeedsAt w.heap.size (m + 1) o' (putNd M ⟨u, z, oo, oc⟩) W) := fun W o' h => M9.out.put h (fun _ => HNEW.out) HZK.out
                            have HPM : Hid ((putNd M ⟨u, z, oo, oc⟩).map pairN = ((N.take (k + 1)).map pairN).foldl (stepK P ⟨e.chan, e.cap, u, t.node⟩) (([wayE e 0, wayE e 1].take j).foldl (stepW P A (reachN P A ways m)) ((waysGo A.bad (E.take i)).foldl (stepW P A (reachN P A ways m)) [(A.dst, startE A)]))) := by
                              show _ = _
                              rw [HSK.out, if_pos rfl]
                              exact put_pair _ M M9.out.nd
                            go_wp2_with ((go_at_call 85; (with_reducible refine Calls.mono HPUT.out ?_); rintro e10 w10 ⟨po', pc', rfl, hp10, hb10⟩; have P10 := Lib.hid (HMN9.out _ _ hp10); have D10 := Lib.hid (HDN9.out _ hb10); have N10 := Lib.hid (HNN9.out _ hb10); clear hp10 hb10))
                            go_roundw
                            case rel => exact ⟨k + 1, putNd M ⟨u, z, oo, oc⟩, po', pc', by omega, by rw [Int.natCast_succ], rfl, .inr HNBAD.out, D10.out, N10.out, P10.out, HPM.out⟩
                            case measure => simp only [intOf]; omega
                          · have q3 := toList_ne hnv
                            have HSM : Hid (M.map pairN = ((N.take (k + 1)).map pairN).foldl (stepK P ⟨e.chan, e.cap, u, v⟩) (([wayE e 0, wayE e 1].take j).foldl (stepW P A (reachN P A ways m)) ((waysGo A.bad (E.take i)).foldl (stepW P A (reachN P A ways m)) [(A.dst, startE A)]))) := by
                              show _ = _
                              rw [HSK.out, if_neg hnv]
                            clear hnv
                            go_wp2_with fail
                            go_roundw
                            case rel => exact ⟨k + 1, M, mo, mc, by omega, by rw [Int.natCast_succ], rfl, .inr HNBAD.out, D9.out, N9.out, M9.out, HSM.out⟩
                            case measure => simp only [intOf]; omega
                        · have hb9 : Below wr.heap.size wr ((((w8.setCell ⟨wr.heap.size, 0, none⟩ (.string u)).setCell ⟨wr.heap.size, 1, none⟩ (.int .i64 z.amt)).setCell ⟨wr.heap.size, 2, none⟩ (.int .i64 z.exp)).setCell ⟨wr.heap.size, 3, none⟩ (.slice oo z.hops.length oc)) := below_fr hb8 fr4_set (Nat.le_refl _) hs8
                          have hr9 : RowsAt 4 hpC oo z.hops ((((w8.setCell ⟨wr.heap.size, 0, none⟩ (.string u)).setCell ⟨wr.heap.size, 1, none⟩ (.int .i64 z.amt)).setCell ⟨wr.heap.size, 2, none⟩ (.int .i64 z.exp)).setCell ⟨wr.heap.size, 3, none⟩ (.slice oo z.hops.length oc)) := rows_fr R8.out (fun b off e _ => by have h1 := R8.out; rw [HZC.out] at h1; exact hops_ne (v := .bool true) h1 hk8 b off e) fr4_set
                          have hx9 : ((((w8.setCell ⟨wr.heap.size, 0, none⟩ (.string u)).setCell ⟨wr.heap.size, 1, none⟩ (.int .i64 z.amt)).setCell ⟨wr.heap.size, 2, none⟩ (.int .i64 z.exp)).setCell ⟨wr.heap.size, 3, none⟩ (.slice oo z.hops.length oc)).heap[wr.heap.size]? = some (.cells #[.string u, .int .i64 z.amt, .int .i64 z.exp, .slice oo z.hops.length oc] 151 (0, 0)) := row4_set hk8
                          clear hb8 hs8 hk8 y0 y1 y2 y3 yl f0 f1 f2 f3
                          generalize ((((w8.setCell ⟨wr.heap.size, 0, none⟩ (.string u)).setCell ⟨wr.heap.size, 1, none⟩ (.int .i64 z.amt)).setCell ⟨wr.heap.size, 2, none⟩ (.int .i64 z.exp)).setCell ⟨wr.heap.size, 3, none⟩ (.slice oo z.hops.length oc)) = w9 at hb9 hr9 hx9 ⊢
                          generalize hxb : wr.heap.size = xb at hx9 ⊢
                          have y0' : w9.cell? ⟨nb, no + k * 4, none⟩ = some (.string t.node) := cell_later' hb9 x0
                          have D9 := Lib.hid (hD.out.next hb9)
                          have N9 := Lib.hid (hN.out.below hb9)
                          have M9 := Lib.hid (hM.out.below hb9)
                          have HR9 := Lib.hid hr9
                          obtain ⟨y0, y1, y2, y3, yl⟩ := cells4 hx9
                          clear hb9 hr9 hx9 x0 x1 x2 x3 c0 c1 c2 c3 a0 a1 a2 a3 a4 a5 a6 al q1 q2
                          by_cases hnv : t.node = v
                          · subst hnv
                            have HPUT : Hid (Calls Tryz.prog 85 #[.slice mo M.length mc, .agg #[.string u, .int .i64 z.amt, .int .i64 z.exp, .slice oo z.hops.length oc]] w9 (NdsPost (putNd M ⟨u, z, oo, oc⟩) w9)) := put_any mo M mc ⟨u, z, oo, oc⟩ w9 M9.out.at_ HR9.out (by have := HML.out; omega) (fun t' ht' => by have := (M9.out.ok t' ht').2; omega) (by have := HZK.out.2; dsimp only; omega)
                            have HDN9 := Lib.hid (fun (W : World) (h : Below w9.heap.size w9 W) => D9.out.next h)
                            have HNN9 := Lib.hid (fun (W : World) (h : Below w9.heap.size w9 W) => N9.out.below h)
                            have HMN9 : Hid (∀ (W : World) (o' : Option Addr), NdsAt o' (putNd M ⟨u, z, oo, oc⟩) W → NeedsAt w.heap.size (m + 1) o' (putNd M ⟨u, z, oo, oc⟩) W) := fun W o' h => M9.out.put h (fun _ => HNEW.out) HZK.out
                            have HPM : Hid ((putNd M ⟨u, z, oo, oc⟩).map pairN = ((N.take (k + 1)).map pairN).foldl (stepK P ⟨e.chan, e.cap, u, t.node⟩) (([wayE e 0, wayE e 1].take j).foldl (stepW P A (reachN P A ways m)) ((waysGo A.bad (E.take i)).foldl (stepW P A (reachN P A ways m)) [(A.dst, startE A)]))) := by
                              show _ = _
                              rw [HSK.out, if_pos rfl]
                              exact put_pair _ M M9.out.nd
                            go_wp2_with ((go_at_call 85; (with_reducible refine Calls.mono HPUT.out ?_); rintro e10 w10 ⟨po', pc', rfl, hp10, hb10⟩; have P10 := Lib.hid (HMN9.out _ _ hp10); have D10 := Lib.hid (HDN9.out _ hb10); have N10 := Lib.hid (HNN9.out _ hb10); clear hp10 hb10))
                            go_roundw
                            case rel => exact ⟨k + 1, putNd M ⟨u, z, oo, oc⟩, po', pc', by omega, by rw [Int.natCast_succ], rfl, .inr HNBAD.out, D10.out, N10.out, P10.out, HPM.out⟩
                            case measure => simp only [intOf]; omega
                          · have q3 := toList_ne hnv
                            have HSM : Hid (M.map pairN = ((N.take (k + 1)).map pairN).foldl (stepK P ⟨e.chan, e.cap, u, v⟩) (([wayE e 0, wayE e 1].take j).foldl (stepW P A (reachN P A ways m)) ((waysGo A.bad (E.take i)).foldl (stepW P A (reachN P A ways m)) [(A.dst, startE A)]))) := by
                              show _ = _
                              rw [HSK.out, if_neg hnv]
                            clear hnv
                            go_wp2_with fail
                            go_roundw
                            case rel => exact ⟨k + 1, M, mo, mc, by omega, by rw [Int.natCast_succ], rfl, .inr HNBAD.out, D9.out, N9.out, M9.out, HSM.out⟩
                            case measure => simp only [intOf]; omega
                  · obtain rfl : k = N.length := by omega
                    rw [List.take_length, hR.out] at hF
                    by_cases hbad : u = af ∨ u = ad
                    · have hk0 : N.length = 0 := hkc.resolve_right (fun h => h (by rw [haf, had]; exact hbad))
                      exfalso
                      have h1 := reach_to P A ways m
                      rw [← hR.out, List.length_eq_zero_iff.1 hk0] at h1
                      cases h1
                    · have HEX : Hid (M.map pairN = (([wayE e 0, wayE e 1].take (j + 1)).foldl (stepW P A (reachN P A ways m)) ((waysGo A.bad (E.take i)).foldl (stepW P A (reachN P A ways m)) [(A.dst, startE A)]))) := by
                        show _ = _
                        rw [HB4.out, ← stepD_eq _ _ _ _ _ (nodup_reach P A ways m), hF.out]
                        unfold stepD
                        rw [if_neg (by rw [haf, had]; exact hbad)]
                      clear hbad hkc hF haf had hk hlt4
                      go_wp2_with fail
                      go_roundw
                      case rel => exact ⟨j + 1, M, mo, mc, by have := HJ.out; omega, by rw [Int.natCast_succ], rfl, (by first | exact .inr HCB.out | exact .inr trivial), hD.out, hN.out, hM.out, HEX.out⟩
                      case measure => have := HJ.out; simp only [intOf]; omega
            · obtain rfl : j = 2 := by omega
              have hjj : ¬ (2 : Int) < 2 := by omega
              have hcb : countsB E A.bad i = true := hjc.resolve_left (by decide)
              have HEX : Hid (M.map pairN = (waysGo A.bad (E.take (i + 1))).foldl (stepW P A (reachN P A ways m)) [(A.dst, startE A)]) := by
                show _ = _
                rw [HWT.out, hcb, hF.out, if_pos rfl, List.foldl_append]; rfl
              clear hcb hj hj2 hjc hF
              go_wp2_with fail
              go_roundw
              case rel => exact ⟨i + 1, M, mo, mc, HILT.out, by rw [Int.natCast_succ], rfl, hD.out, hN.out, hM.out, HEX.out⟩
              case measure => have := HILT.out; simp only [intOf]; omega
        · obtain rfl : i = E.length := by omega
          have HRN : Hid (M.map pairN = reachN P A ways (m + 1)) := by
            have h1 := hF.out
            rw [List.take_length, HWY.out] at h1
            exact h1
          clear hi hlt2 hN hF
          go_wp2_with fail
          go_roundw
          case rel => exact ⟨m + 1, M, mo, mc, by omega, by rw [Int.natCast_succ], rfl, hD.out, hM.out, HRN.out⟩
          case measure => simp only [intOf]; omega
    · obtain rfl : m = 19 := by omega
      as_aux_lemma =>
      obtain ⟨w3, rfl⟩ : ∃ q, q = wr := ⟨wr, rfl⟩
      rw [show (((19 : Nat) : Int) + 1) = 20 from rfl]
      have hfb : ways.foldl (lastW A (reachN P A ways 19)) none = out := HOUT.out
      have HFB := Lib.hid hfb
      have hnd := nodup_reach P A ways 19
      have HND := Lib.hid hnd
      have hcap : ∀ ee ∈ E, 0 ≤ ee.cap ∧ ee.cap ≤ 2100000000000000 := HFi.out.edg
      have HCP := Lib.hid hcap
      clear hfb hnd hcap HOUT hlt hm
      generalize reachN P A ways 19 = R0 at HFB HND hR
      have HB3 : Hid (Below w3.heap.size w3 (w3.alloc (.cells #[.string ⟨#[]⟩, .int .i64 0, .int .i64 0, .slice none 0 0] 151))) := below_new' _ _
      have HBB : Hid (BestAt (w3.alloc (.cells #[.string ⟨#[]⟩, .int .i64 0, .int .i64 0, .slice none 0 0] 151)) w.heap.size w3.heap.size none) := heap_alloc_at w3 (.cells #[.string ⟨#[]⟩, .int .i64 0, .int .i64 0, .slice none 0 0] 151)
      go_wp2_with fail
      generalize (w3.alloc (.cells #[.string ⟨#[]⟩, .int .i64 0, .int .i64 0, .slice none 0 0] 151)) = w4 at HB3 HBB ⊢
      have hbbs : w3.heap.size ≤ w3.heap.size := Nat.le_refl _
      have HBS := Lib.hid hbbs
      clear hbbs
      obtain ⟨bb, hbb⟩ : ∃ b, w3.heap.size = b := ⟨_, rfl⟩
      have HBQ := Lib.hid hbb
      rw [hbb] at HBB ⊢
      clear hbb HBS
      go_loopw [22, 21] (fun iv fv wq => ∃ (i : Nat) (o : Option En), i ≤ E.length ∧ iv = .int .i64 i ∧ fv = .bool o.isSome ∧ Hid (Below w3.heap.size w3 wq) ∧ Hid (BestAt wq w.heap.size bb o) ∧ Hid (o = ((waysGo A.bad (E.take i)).foldl (lastW A R0) none))) (fun iv _ _ => E.length - (intOf iv).toNat)
      case atStart => exact ⟨0, none, Nat.zero_le _, rfl, rfl, HB3.out, HBB.out, rfl⟩
      case round =>
        clear HB3 HBB
        obtain ⟨i, o, hi, rfl, rfl, hB, hX, hF⟩ := hrel
        by_cases hlt2 : i < E.length
        · obtain ⟨e, he⟩ : ∃ e, E[i]? = some e := ⟨_, List.getElem?_eq_getElem hlt2⟩
          have hii : (i : Int) < (E.length : Int) := by omega
          have hii2 : (E.length : Int) ≤ 256 := by have := HEL.out; omega
          have HEM := Lib.hid (List.mem_of_getElem? he)
          have HWT := Lib.hid (ways_take E A.bad he)
          obtain ⟨eb, eo, rfl, hc⟩ := rows_at HEE.out he
          have HC0 : Hid (w.cell? ⟨eb, eo + i * 4, none⟩ = some (.string e.chan)) := hc 0 _ rfl
          have HC1 : Hid (w.cell? ⟨eb, eo + i * 4 + 1, none⟩ = some (.string e.a)) := hc 1 _ rfl
          have HC2 : Hid (w.cell? ⟨eb, eo + i * 4 + 2, none⟩ = some (.string e.b)) := hc 2 _ rfl
          have HC3 : Hid (w.cell? ⟨eb, eo + i * 4 + 3, none⟩ = some (.int .i64 e.cap)) := hc 3 _ rfl
          have HILT := Lib.hid hlt2
          clear hc he hi
          go_wp2_with fail
          go_loopw [23, 21] (fun jv fv wr => ∃ (j : Nat) (o : Option En), j ≤ 2 ∧ jv = .int .i64 j ∧ fv = .bool o.isSome ∧ (j = 0 ∨ countsB E A.bad i = true) ∧ Hid (Below w3.heap.size w3 wr) ∧ Hid (BestAt wr w.heap.size bb o) ∧ Hid (o = (([wayE e 0, wayE e 1].take j).foldl (lastW A R0) ((waysGo A.bad (E.take i)).foldl (lastW A R0) none)))) (fun jv _ _ => 2 - (intOf jv).toNat)
          case atStart => exact ⟨0, o, by omega, rfl, rfl, .inl rfl, hB.out, hX.out, hF.out⟩
          case round =>
            clear hB hX hF
            obtain ⟨j, o, hj, rfl, rfl, hjc, hB, hX, hF⟩ := hrel
            have HDW : Hid (DfS w (askC A ob bl cb) sb #[.string A.dst, .int .i64 A.amt, .int .i64 A.exp, .slice none 0 0] wr) := hD.out.next hB.out
            obtain ⟨a0, a1, a2, a3, a4, a5, a6, al⟩ := ask_at45 HDW.out.box
            by_cases hj2 : j < 2
            · have hjj : (j : Int) < 2 := by omega
              cases hcb : countsB E A.bad i with
              | false =>
                have HCF : Hid (∀ W, Below w.heap.size w W → Calls Tryz.prog 82 #[.slice (some ⟨eb, eo, none⟩) E.length ce, .int .i64 i, .slice ob bl cb] W fun e w' => e = .returned (.bool false) ∧ Below W.heap.size W w') := fun W h => by
                  have := HCT.out W h i HILT.out
                  rw [hcb] at this; exact this
                have hj0 : j = 0 := hjc.resolve_right (by rw [hcb]; decide)
                have HEX : Hid (o = (waysGo A.bad (E.take (i + 1))).foldl (lastW A R0) none) := by
                  show _ = _
                  rw [HWT.out, hcb, hF.out, hj0]; simp
                have HXN := Lib.hid (fun (W : World) (h : Below wr.heap.size wr W) => hX.out.below h)
                have HBN := Lib.hid (fun (W : World) (h : Below wr.heap.size wr W) => btr hB.out h)
                clear hcb hj hj0 hjc hF
                go_wp2_with ((go_at_call 82; (with_reducible refine Calls.mono (HCF.out _ HDW.out.bel) ?_); rintro e6 w6 ⟨rfl, hb6⟩; have B6 := Lib.hid (HBN.out _ hb6); have X6 := Lib.hid (HXN.out _ hb6); clear hb6))
                go_roundw
                case rel => exact ⟨i + 1, o, HILT.out, by rw [Int.natCast_succ], rfl, B6.out, X6.out, HEX.out⟩
                case measure => have := HILT.out; simp only [intOf]; omega
              | true =>
                have HCF : Hid (∀ W, Below w.heap.size w W → Calls Tryz.prog 82 #[.slice (some ⟨eb, eo, none⟩) E.length ce, .int .i64 i, .slice ob bl cb] W fun e w' => e = .returned (.bool true) ∧ Below W.heap.size W w') := fun W h => by
                  have := HCT.out W h i HILT.out
                  rw [hcb] at this; exact this
                have HXN := Lib.hid (fun (W : World) (h : Below wr.heap.size wr W) => hX.out.below h)
                have HBN := Lib.hid (fun (W : World) (h : Below wr.heap.size wr W) => btr hB.out h)
                have HEN : Hid (∀ W, Calls Tryz.prog 83 #[.agg #[.string e.chan, .string e.a, .string e.b, .int .i64 e.cap], .int .i64 (j : Int)] W fun ee w' => ee = .returned (.tuple #[.string (wayE e j).frm, .string (wayE e j).dst]) ∧ Below W.heap.size W w') := fun W => ends_any e j W
                have HWE : Hid (wayE e j = ⟨e.chan, e.cap, (wayE e j).frm, (wayE e j).dst⟩) := by
                  show _ = _
                  unfold wayE; split <;> rfl
                have HB4 : Hid ((([wayE e 0, wayE e 1].take (j + 1)).foldl (lastW A R0) ((waysGo A.bad (E.take i)).foldl (lastW A R0) none)) = lastW A R0 (([wayE e 0, wayE e 1].take j).foldl (lastW A R0) ((waysGo A.bad (E.take i)).foldl (lastW A R0) none)) (wayE e j)) := by
                  refine fold_take _ _ ?_
                  rcases (show j = 0 ∨ j = 1 by omega) with h | h <;> (rw [h]; rfl)
                have HJ := Lib.hid hj2
                have HCB := Lib.hid hcb
                clear hcb hj hjc
                go_wp2_with (first
                  | (go_at_call 82; (with_reducible refine Calls.mono (HCF.out _ HDW.out.bel) ?_); rintro e6 w6 ⟨rfl, hb6⟩; have B6 := Lib.hid hb6; have D6 := Lib.hid (HDW.out.next hb6); have c0 := cell_later' D6.out.bel HC0.out; have c1 := cell_later' D6.out.bel HC1.out; have c2 := cell_later' D6.out.bel HC2.out; have c3 := cell_later' D6.out.bel HC3.out; clear hb6)
                  | (go_at_call 83; (with_reducible refine Calls.mono (HEN.out _) ?_); rintro e7 w7 ⟨rfl, hb7⟩; have B7 := Lib.hid (btr B6.out hb7); clear hb7))
                clear c0 c1 c2 c3 a0 a1 a2 a3 a4 a5 a6 al hjj
                have X7 := Lib.hid (HXN.out _ B7.out)
                have B8 := Lib.hid (HBN.out _ B7.out)
                clear HXN HBN hB hX B6 D6 B7 HDW
                obtain ⟨wq, hwq⟩ : ∃ q, wayE e j = q := ⟨_, rfl⟩
                rw [hwq] at HWE HB4 HEN ⊢
                clear hwq HEN
                obtain ⟨wc, wk, u, v⟩ := wq
                dsimp only at HWE ⊢
                have hwe := HWE.out
                simp only [Rte.Way.mk.injEq, and_true] at hwe
                obtain ⟨rfl, rfl⟩ := hwe
                clear HWE
                go_loopw [26, 21] (fun kv fv wr => ∃ (k : Nat) (o : Option En), k ≤ N.length ∧ kv = .int .i64 k ∧ fv = .bool o.isSome ∧ (k = 0 ∨ u = A.frm) ∧ Hid (Below w3.heap.size w3 wr) ∧ Hid (BestAt wr w.heap.size bb o) ∧ Hid (o = ((N.take k).map pairN).foldl (lastK A ⟨e.chan, e.cap, u, v⟩) (([wayE e 0, wayE e 1].take j).foldl (lastW A R0) ((waysGo A.bad (E.take i)).foldl (lastW A R0) none)))) (fun kv _ _ => N.length - (intOf kv).toNat)
                case atStart => exact ⟨0, o, Nat.zero_le _, rfl, rfl, .inl rfl, B8.out, X7.out, hF.out⟩
                case round =>
                  clear X7 B8 hF
                  obtain ⟨k, o, hk, rfl, rfl, hkc, hB, hX, hF⟩ := hrel
                  have HDW : Hid (DfS w (askC A ob bl cb) sb #[.string A.dst, .int .i64 A.amt, .int .i64 A.exp, .slice none 0 0] wr) := hD.out.next hB.out
                  obtain ⟨a0, a1, a2, a3, a4, a5, a6, al⟩ := ask_at45 HDW.out.box
                  obtain ⟨af, haf⟩ : ∃ q, A.frm = q := ⟨_, rfl⟩
                  have HAF := Lib.hid haf
                  rw [haf] at a0
                  by_cases hlt4 : k < N.length
                  · have hkk : (k : Int) < (N.length : Int) := by omega
                    have hkk2 : (N.length : Int) ≤ 513 := by have := HNL.out; omega
                    by_cases hgood : u = af
                    · subst hgood
                      obtain ⟨t, ht⟩ : ∃ t, N[k]? = some t := ⟨_, List.getElem?_eq_getElem hlt4⟩
                      have htm := List.mem_of_getElem? ht
                      obtain ⟨nb, no, hlo, hnc⟩ := rows_at hN.out.at_.1 ht
                      subst hlo
                      have x0 : wr.cell? ⟨nb, no + k * 4, none⟩ = some (.string t.node) := cell_later' hB.out (hnc 0 _ rfl)
                      have x1 : wr.cell? ⟨nb, no + k * 4 + 1, none⟩ = some (.int .i64 t.e.amt) := cell_later' hB.out (hnc 1 _ rfl)
                      have x2 : wr.cell? ⟨nb, no + k * 4 + 2, none⟩ = some (.int .i64 t.e.exp) := cell_later' hB.out (hnc 2 _ rfl)
                      have x3 : wr.cell? ⟨nb, no + k * 4 + 3, none⟩ = some (.slice t.o t.e.hops.length t.c) := cell_later' hB.out (hnc 3 _ rfl)
                      have c0 := cell_later' HDW.out.bel HC0.out
                      have c3 := cell_later' HDW.out.bel HC3.out
                      have HCC := Lib.hid (And.intro c0 (And.intro x0 (And.intro x1 (And.intro x2 x3))))
                      have HTA : Hid (NdAt wr t) := (hN.out.at_.2 t htm).below hB.out
                      obtain ⟨tok, tlen⟩ := hN.out.ok t htm
                      have HTL := Lib.hid tlen
                      obtain ⟨cap0, cap1⟩ := HCP.out e HEM.out
                      have hmul : wrap64 (e.cap * 1000) = e.cap * 1000 := by unfold wrap64; omega
                      have hsub : wrap64 (t.e.amt - A.amt) = t.e.amt - A.amt := by have h1 := tok.a0; have h2 := tok.a1; have h3 := HA.out.a0; have h4 := HA.out.a1; unfold wrap64; omega
                      obtain ⟨afee, hafee⟩ : ∃ q, A.fee = q := ⟨_, rfl⟩
                      obtain ⟨alat, halat⟩ : ∃ q, A.latest = q := ⟨_, rfl⟩
                      have HAE := Lib.hid hafee
                      have HAL := Lib.hid halat
                      rw [hafee] at a5
                      rw [halat] at a4
                      have HFK : Hid (((N.take (k + 1)).map pairN).foldl (lastK A ⟨e.chan, e.cap, u, v⟩) (([wayE e 0, wayE e 1].take j).foldl (lastW A R0) ((waysGo A.bad (E.take i)).foldl (lastW A R0) none)) = lastK A ⟨e.chan, e.cap, u, v⟩ o (pairN t)) := by
                        show _ = _
                        rw [List.take_add_one, ht, List.map_append, List.foldl_append, ← hF.out]; rfl
                      have HOV : Hid (∀ W, Below wr.heap.size wr W → Calls Tryz.prog 86 #[.string e.chan, .agg #[.string t.node, .int .i64 t.e.amt, .int .i64 t.e.exp, .slice t.o t.e.hops.length t.c]] W fun ee w' => ∃ oo oc, ee = .returned (.slice oo (t.e.hops.length + 1) oc) ∧ RowsAt 4 hpC oo (⟨e.chan, t.node, t.e.amt, t.e.exp⟩ :: t.e.hops) w' ∧ Below W.heap.size W w' ∧ NewA W.heap.size oo) := fun W h => over_any e.chan t W (HTA.out.below h) (by have := HTL.out; omega)
                      have HGA : Hid (Calls Tryz.prog 86 #[.string e.chan, .agg #[.string t.node, .int .i64 t.e.amt, .int .i64 t.e.exp, .slice t.o t.e.hops.length t.c]] (wr.alloc (.cells #[.string ⟨#[]⟩, .int .i64 0, .int .i64 0, .slice none 0 0] 151)).drew fun ee w' => ∃ oo oc, ee = .returned (.slice oo (t.e.hops.length + 1) oc) ∧ Below wr.heap.size wr w' ∧ w'.heap[wr.heap.size]? = some (.cells #[.string ⟨#[]⟩, .int .i64 0, .int .i64 0, .slice none 0 0] 151 (0, 0)) ∧ RowsAt 4 hpC oo (⟨e.chan, t.node, t.e.amt, t.e.exp⟩ :: t.e.hops) w' ∧ NewA w.heap.size oo) := (HOV.out _ (below_new' wr (.cells #[.string ⟨#[]⟩, .int .i64 0, .int .i64 0, .slice none 0 0] 151)).drew).mono fun ee w' q => by
                        obtain ⟨oo, oc, q1, q2, q0, q3⟩ := q
                        exact ⟨oo, oc, q1, btr (below_new' wr (.cells #[.string ⟨#[]⟩, .int .i64 0, .int .i64 0, .slice none 0 0] 151)).drew q0, (q0.block _ (by simp)).trans (heap_alloc_at wr _), q2, q3.weak (by have := HDW.out.bel.size; simp; omega)⟩
                      have HGN : Hid (Calls Tryz.prog 86 #[.string e.chan, .agg #[.string t.node, .int .i64 t.e.amt, .int .i64 t.e.exp, .slice t.o t.e.hops.length t.c]] wr.drew fun ee w' => ∃ oo oc, ee = .returned (.slice oo (t.e.hops.length + 1) oc) ∧ Below wr.heap.size wr w' ∧ RowsAt 4 hpC oo (⟨e.chan, t.node, t.e.amt, t.e.exp⟩ :: t.e.hops) w' ∧ NewA w.heap.size oo) := (HOV.out _ (Below.refl _ _).drew).mono fun ee w' q => by
                        obtain ⟨oo, oc, q1, q2, q0, q3⟩ := q
                        exact ⟨oo, oc, q1, btr (Below.refl _ _).drew q0, q2, q3.weak HDW.out.bel.size⟩
                      clear haf hkc ht htm hnc tok tlen hF hk cap0 cap1 hafee halat HOV
                      go_wp2_with fail
                      go_region_held3 (fun W => Below wr.heap.size wr W ∧ W.cell? ⟨eb, eo + i * 4, none⟩ = some (.string e.chan) ∧ W.cell? ⟨nb, no + k * 4, none⟩ = some (.string t.node) ∧ W.cell? ⟨nb, no + k * 4 + 1, none⟩ = some (.int .i64 t.e.amt) ∧ W.cell? ⟨nb, no + k * 4 + 2, none⟩ = some (.int .i64 t.e.exp) ∧ W.cell? ⟨nb, no + k * 4 + 3, none⟩ = some (.slice t.o t.e.hops.length t.c))
                        ((go_split_ands; exact keep5 (by (repeat' (first | (with_reducible exact Below.refl _ _) | (with_reducible assumption) | (with_reducible refine Below.alloc ?_ ?_ _) | (with_reducible refine Below.drew ?_) | (with_reducible refine Below.setCell ?_ ?_ _) | (with_reducible refine bdN ?_ _) | assumption | go_size | (simp; omega)))) HCC.out))
                        ((first
                          | (go_at_call 86; (with_reducible refine Calls.mono HGA.out ?_); rintro e8 w8 ⟨oo, oc, rfl, hb8, hk8, hr8, hn8⟩; have HNEW := Lib.hid hn8; have R8 := Lib.hid hr8; clear hr8 hn8; have hs8 := hb8.size; obtain ⟨y0, y1, y2, y3, yl⟩ := cells4 hk8; have f0 := froz9 hk8 0; have f1 := froz9 hk8 1; have f2 := froz9 hk8 2; have f3 := froz9 hk8 3)
                          | (go_at_call 86; (with_reducible refine Calls.mono HGN.out ?_); rintro e8 w8 ⟨oo, oc, rfl, hb8, hr8, hn8⟩; have HNEW := Lib.hid hn8; have R8 := Lib.hid hr8; clear hr8 hn8; have hs8 := hb8.size)))
                      · have hb9 : Below wr.heap.size wr (w8.alloc (.cells #[.string ⟨#[]⟩, .int .i64 t.e.amt, .int .i64 t.e.exp, .slice oo (t.e.hops.length + 1) oc] 151)) := btr hb8 (below_new' w8 _)
                        have hr9 : RowsAt 4 hpC oo (⟨e.chan, t.node, t.e.amt, t.e.exp⟩ :: t.e.hops) (w8.alloc (.cells #[.string ⟨#[]⟩, .int .i64 t.e.amt, .int .i64 t.e.exp, .slice oo (t.e.hops.length + 1) oc] 151)) := R8.out.below (below_new' w8 _)
                        have hx9 : (w8.alloc (.cells #[.string ⟨#[]⟩, .int .i64 t.e.amt, .int .i64 t.e.exp, .slice oo (t.e.hops.length + 1) oc] 151)).heap[w8.heap.size]? = some (.cells #[.string ⟨#[]⟩, .int .i64 t.e.amt, .int .i64 t.e.exp, .slice oo (t.e.hops.length + 1) oc] 151 (0, 0)) := heap_alloc_at _ _
                        clear hb8 hs8
                        generalize (w8.alloc (.cells #[.string ⟨#[]⟩, .int .i64 t.e.amt, .int .i64 t.e.exp, .slice oo (t.e.hops.length + 1) oc] 151)) = w9 at hb9 hr9 hx9 ⊢
                        generalize w8.heap.size = xb at hx9 ⊢
                        have B9 := Lib.hid (btr hB.out hb9)
                        have X9 := Lib.hid (hX.out.below hb9)
                        have z0 := cell_later' hb9 x0
                        have q3 := cell_later' hb9 c3
                        have m2 := cell_later' hb9 a2
                        have m4 := cell_later' hb9 a4
                        have m5 := cell_later' hb9 a5
                        obtain ⟨p0, p1, p2, p3, pl⟩ := cells4 hx9
                        have HX9 := Lib.hid hx9
                        have HR9 := Lib.hid hr9
                        clear hb9 hx9 hr9 x0 x1 x2 x3 c0 c3 a0 a1 a2 a3 a4 a5 a6 al pl
                        go_wp2_with fail
                        replace z0 := Later.cell z0; replace q3 := Later.cell q3; replace m2 := Later.cell m2; replace m4 := Later.cell m4; replace m5 := Later.cell m5; replace p0 := Later.cell p0; replace p1 := Later.cell p1; replace p2 := Later.cell p2; replace p3 := Later.cell p3
                        by_cases hnv : t.node = v
                        · subst hnv
                          by_cases g1 : t.e.amt ≤ e.cap * 1000
                          · have d1 : decide (t.e.amt ≤ e.cap * 1000) = true := decide_eq_true g1
                            by_cases g2 : t.e.amt - A.amt ≤ afee
                            · have d2 : decide (t.e.amt - A.amt ≤ afee) = true := decide_eq_true g2
                              by_cases g3 : t.e.exp ≤ alat
                              · have d3 : decide (t.e.exp ≤ alat) = true := decide_eq_true g3
                                have HCK : Hid (lastK A ⟨e.chan, e.cap, u, t.node⟩ o (t.node, t.e) = some (bestE o (⟨t.e.amt, t.e.exp, ⟨e.chan, t.node, t.e.amt, t.e.exp⟩ :: t.e.hops⟩ : En))) := by
                                  show _ = _
                                  unfold lastK candK
                                  dsimp only
                                  rw [if_pos ⟨rfl, g1, by rw [HAE.out]; exact g2, by rw [HAL.out]; exact g3⟩]
                                clear g1 g2 g3
                                cases o with
                                | none =>
                                  have HSKIP : Hid (some (⟨t.e.amt, t.e.exp, ⟨e.chan, t.node, t.e.amt, t.e.exp⟩ :: t.e.hops⟩ : En) = ((N.take (k + 1)).map pairN).foldl (lastK A ⟨e.chan, e.cap, u, t.node⟩) (([wayE e 0, wayE e 1].take j).foldl (lastW A R0) ((waysGo A.bad (E.take i)).foldl (lastW A R0) none))) := by show _ = _; rw [HFK.out]; exact HCK.out.symm
                                  clear HFK HCK
                                  refine wp_region_later (by kernel_rfl) (by kernel_rfl) ?_
                                  repeat (go_big_quiet_step (fail))
                                  refine wpQuiet_nil ?_
                                  intro _ hw'
                                  obtain ⟨nq, rfl⟩ := hw'
                                  have B10 := Lib.hid (btr B9.out nq.below)
                                  have X10 := Lib.hid (X9.out.below nq.below)
                                  have R10 := Lib.hid (HR9.out.below nq.below)
                                  have hx10 : nq.at_.heap[xb]? = some (.cells #[.string ⟨#[]⟩, .int .i64 t.e.amt, .int .i64 t.e.exp, .slice oo (t.e.hops.length + 1) oc] 151 (0, 0)) := (nq.below.block xb (lt_of_heap HX9.out)).trans HX9.out
                                  clear z0 p0 p1 p2 p3 q3 m2 m4 m5 hmul hsub
                                  generalize nq.at_ = w10 at B10 X10 R10 hx10 ⊢
                                  obtain ⟨y0, y1, y2, y3, yl⟩ := cells4 hx10
                                  obtain ⟨rx, ry, ra, rn, rc, hbrow⟩ := X10.out.row
                                  have hbbq := HBQ.out
                                  have B11 : Hid (Below w3.heap.size w3 (w10.setRow bb #[.string ⟨#[]⟩, .int .i64 t.e.amt, .int .i64 t.e.exp, .slice oo (t.e.hops.length + 1) oc])) := below_setRow B10.out (by omega) _
                                  have X11 : Hid (BestAt (w10.setRow bb #[.string ⟨#[]⟩, .int .i64 t.e.amt, .int .i64 t.e.exp, .slice oo (t.e.hops.length + 1) oc]) w.heap.size bb (some (⟨t.e.amt, t.e.exp, ⟨e.chan, t.node, t.e.amt, t.e.exp⟩ :: t.e.hops⟩ : En))) := ⟨oo, oc, setRow_heap w10 bb _ _ 151 _ hbrow, rows_fr R10.out (fun b off e' _ => hops_neS R10.out hbrow b off e') ((Fr.refl (fun q => q = bb) w10).setR bb _ (fun _ => rfl)), HNEW.out, by have := HTL.out; simp only [List.length_cons]; omega⟩
                                  have HBR := Lib.hid hbrow
                                  clear hbrow hx10 hbbq
                                  go_wp2_with (with_reducible refine wpList_store_row rfl 151 (.tmp 20) (.tmp 225) rfl bb #[.string ⟨#[]⟩, .int .i64 t.e.amt, .int .i64 t.e.exp, .slice oo (t.e.hops.length + 1) oc] rfl rfl 151 _ HBR.out (by kernel_rfl) rfl (by simp [Value.oneCell']) ?_)
                                  go_roundw
                                  case rel => exact ⟨k + 1, some (⟨t.e.amt, t.e.exp, ⟨e.chan, t.node, t.e.amt, t.e.exp⟩ :: t.e.hops⟩ : En), by omega, by rw [Int.natCast_succ], rfl, .inr HAF.out.symm, B11.out, X11.out, HSKIP.out⟩
                                  case measure => simp only [intOf]; omega
                                | some y =>
                                  obtain ⟨ya, yc, hyrow, hyr, hyn, hyl⟩ := X9.out
                                  obtain ⟨r0, r1, r2, r3, rl⟩ := cells4 hyrow
                                  replace r0 := Later.cell r0; replace r1 := Later.cell r1; replace r2 := Later.cell r2; replace r3 := Later.cell r3
                                  have HBT : Hid (∀ n : Later w9, Calls Tryz.prog 87 #[.agg #[.string ⟨#[]⟩, .int .i64 t.e.amt, .int .i64 t.e.exp, .slice oo (t.e.hops.length + 1) oc], .agg #[.string ⟨#[]⟩, .int .i64 y.amt, .int .i64 y.exp, .slice ya y.hops.length yc]] n.at_ fun ee w' => ee = .returned (.bool (betB (⟨t.e.amt, t.e.exp, ⟨e.chan, t.node, t.e.amt, t.e.exp⟩ :: t.e.hops⟩ : En) y)) ∧ Below n.at_.heap.size n.at_ w') := fun n => better_any ⟨⟨#[]⟩, (⟨t.e.amt, t.e.exp, ⟨e.chan, t.node, t.e.amt, t.e.exp⟩ :: t.e.hops⟩ : En), oo, oc⟩ ⟨⟨#[]⟩, y, ya, yc⟩ n.at_ (HR9.out.below n.below) (hyr.below n.below) (by have := HTL.out; simp only [List.length_cons]; omega) (by dsimp only; omega)
                                  clear hyrow hyr hyn hyl rl
                                  cases hbt : betB (⟨t.e.amt, t.e.exp, ⟨e.chan, t.node, t.e.amt, t.e.exp⟩ :: t.e.hops⟩ : En) y with
                                  | true =>
                                    rw [hbt] at HBT
                                    have HSKIP : Hid (some (⟨t.e.amt, t.e.exp, ⟨e.chan, t.node, t.e.amt, t.e.exp⟩ :: t.e.hops⟩ : En) = ((N.take (k + 1)).map pairN).foldl (lastK A ⟨e.chan, e.cap, u, t.node⟩) (([wayE e 0, wayE e 1].take j).foldl (lastW A R0) ((waysGo A.bad (E.take i)).foldl (lastW A R0) none))) := by
                                      show _ = _
                                      rw [HFK.out]
                                      refine Eq.trans ?_ HCK.out.symm
                                      unfold bestE; dsimp only; rw [if_pos hbt]
                                    clear HFK HCK hbt
                                    refine wp_region_later (by kernel_rfl) (by kernel_rfl) ?_
                                    repeat (go_big_quiet_step ((go_at_call 87; exact calls_later (HBT.out _))))
                                    refine wpQuiet_nil ?_
                                    intro _ hw'
                                    obtain ⟨nq, rfl⟩ := hw'
                                    have B10 := Lib.hid (btr B9.out nq.below)
                                    have X10 := Lib.hid (X9.out.below nq.below)
                                    have R10 := Lib.hid (HR9.out.below nq.below)
                                    have hx10 : nq.at_.heap[xb]? = some (.cells #[.string ⟨#[]⟩, .int .i64 t.e.amt, .int .i64 t.e.exp, .slice oo (t.e.hops.length + 1) oc] 151 (0, 0)) := (nq.below.block xb (lt_of_heap HX9.out)).trans HX9.out
                                    clear z0 p0 p1 p2 p3 q3 m2 m4 m5 hmul hsub r0 r1 r2 r3
                                    generalize nq.at_ = w10 at B10 X10 R10 hx10 ⊢
                                    obtain ⟨y0, y1, y2, y3, yl⟩ := cells4 hx10
                                    obtain ⟨rx, ry, ra, rn, rc, hbrow⟩ := X10.out.row
                                    have hbbq := HBQ.out
                                    have B11 : Hid (Below w3.heap.size w3 (w10.setRow bb #[.string ⟨#[]⟩, .int .i64 t.e.amt, .int .i64 t.e.exp, .slice oo (t.e.hops.length + 1) oc])) := below_setRow B10.out (by omega) _
                                    have X11 : Hid (BestAt (w10.setRow bb #[.string ⟨#[]⟩, .int .i64 t.e.amt, .int .i64 t.e.exp, .slice oo (t.e.hops.length + 1) oc]) w.heap.size bb (some (⟨t.e.amt, t.e.exp, ⟨e.chan, t.node, t.e.amt, t.e.exp⟩ :: t.e.hops⟩ : En))) := ⟨oo, oc, setRow_heap w10 bb _ _ 151 _ hbrow, rows_fr R10.out (fun b off e' _ => hops_neS R10.out hbrow b off e') ((Fr.refl (fun q => q = bb) w10).setR bb _ (fun _ => rfl)), HNEW.out, by have := HTL.out; simp only [List.length_cons]; omega⟩
                                    have HBR := Lib.hid hbrow
                                    clear hbrow hx10 hbbq
                                    go_wp2_with (with_reducible refine wpList_store_row rfl 151 (.tmp 20) (.tmp 225) rfl bb #[.string ⟨#[]⟩, .int .i64 t.e.amt, .int .i64 t.e.exp, .slice oo (t.e.hops.length + 1) oc] rfl rfl 151 _ HBR.out (by kernel_rfl) rfl (by simp [Value.oneCell']) ?_)
                                    go_roundw
                                    case rel => exact ⟨k + 1, some (⟨t.e.amt, t.e.exp, ⟨e.chan, t.node, t.e.amt, t.e.exp⟩ :: t.e.hops⟩ : En), by omega, by rw [Int.natCast_succ], rfl, .inr HAF.out.symm, B11.out, X11.out, HSKIP.out⟩
                                    case measure => simp only [intOf]; omega
                                  | false =>
                                    rw [hbt] at HBT
                                    have HSKIP : Hid (some y = ((N.take (k + 1)).map pairN).foldl (lastK A ⟨e.chan, e.cap, u, t.node⟩) (([wayE e 0, wayE e 1].take j).foldl (lastW A R0) ((waysGo A.bad (E.take i)).foldl (lastW A R0) none))) := by
                                      show _ = _
                                      rw [HFK.out]
                                      refine Eq.trans ?_ HCK.out.symm
                                      unfold bestE; dsimp only; rw [if_neg (by rw [hbt]; decide)]
                                    clear HFK HCK hbt
                                    refine wp_region_later (by kernel_rfl) (by kernel_rfl) ?_
                                    repeat (go_big_quiet_step ((go_at_call 87; exact calls_later (HBT.out _))))
                                    refine wpQuiet_nil ?_
                                    intro _ hw'
                                    obtain ⟨nq, rfl⟩ := hw'
                                    have B10 := Lib.hid (btr B9.out nq.below)
                                    have X10 := Lib.hid (X9.out.below nq.below)
                                    clear z0 p0 p1 p2 p3 q3 m2 m4 m5 hmul hsub r0 r1 r2 r3
                                    generalize nq.at_ = w10 at B10 X10 ⊢
                                    go_wp2_with fail
                                    go_roundw
                                    case rel => exact ⟨k + 1, some y, by omega, by rw [Int.natCast_succ], rfl, .inr HAF.out.symm, B10.out, X10.out, HSKIP.out⟩
                                    case measure => simp only [intOf]; omega
                              · have d3 : decide (t.e.exp ≤ alat) = false := decide_eq_false g3
                                have HSKIP : Hid (o = ((N.take (k + 1)).map pairN).foldl (lastK A ⟨e.chan, e.cap, u, t.node⟩) (([wayE e 0, wayE e 1].take j).foldl (lastW A R0) ((waysGo A.bad (E.take i)).foldl (lastW A R0) none))) := by
                                  show _ = _
                                  rw [HFK.out]; unfold lastK candK pairN; dsimp only
                                  rw [if_neg (by rw [HAL.out]; exact fun h => g3 h.2.2.2)]
                                clear g1 g2 g3 HFK
                                refine wp_region_later (by kernel_rfl) (by kernel_rfl) ?_
                                repeat (go_big_quiet_step (fail))
                                refine wpQuiet_nil ?_
                                intro _ hw'
                                obtain ⟨nq, rfl⟩ := hw'
                                have B10 := Lib.hid (btr B9.out nq.below)
                                have X10 := Lib.hid (X9.out.below nq.below)
                                clear z0 p0 p1 p2 p3 q3 m2 m4 m5 hmul hsub
                                generalize nq.at_ = w10 at B10 X10 ⊢
                                go_wp2_with fail
                                go_roundw
                                case rel => exact ⟨k + 1, o, by omega, by rw [Int.natCast_succ], rfl, .inr HAF.out.symm, B10.out, X10.out, HSKIP.out⟩
                                case measure => simp only [intOf]; omega
                            · have d2 : decide (t.e.amt - A.amt ≤ afee) = false := decide_eq_false g2
                              have HSKIP : Hid (o = ((N.take (k + 1)).map pairN).foldl (lastK A ⟨e.chan, e.cap, u, t.node⟩) (([wayE e 0, wayE e 1].take j).foldl (lastW A R0) ((waysGo A.bad (E.take i)).foldl (lastW A R0) none))) := by
                                show _ = _
                                rw [HFK.out]; unfold lastK candK pairN; dsimp only
                                rw [if_neg (by rw [HAE.out]; exact fun h => g2 h.2.2.1)]
                              clear g1 g2 HFK
                              refine wp_region_later (by kernel_rfl) (by kernel_rfl) ?_
                              repeat (go_big_quiet_step (fail))
                              refine wpQuiet_nil ?_
                              intro _ hw'
                              obtain ⟨nq, rfl⟩ := hw'
                              have B10 := Lib.hid (btr B9.out nq.below)
                              have X10 := Lib.hid (X9.out.below nq.below)
                              clear z0 p0 p1 p2 p3 q3 m2 m4 m5 hmul hsub
                              generalize nq.at_ = w10 at B10 X10 ⊢
                              go_wp2_with fail
                              go_roundw
                              case rel => exact ⟨k + 1, o, by omega, by rw [Int.natCast_succ], rfl, .inr HAF.out.symm, B10.out, X10.out, HSKIP.out⟩
                              case measure => simp only [intOf]; omega
                          · have d1 : decide (t.e.amt ≤ e.cap * 1000) = false := decide_eq_false g1
                            have HSKIP : Hid (o = ((N.take (k + 1)).map pairN).foldl (lastK A ⟨e.chan, e.cap, u, t.node⟩) (([wayE e 0, wayE e 1].take j).foldl (lastW A R0) ((waysGo A.bad (E.take i)).foldl (lastW A R0) none))) := by
                              show _ = _
                              rw [HFK.out]; unfold lastK candK pairN; dsimp only
                              rw [if_neg (fun h => g1 h.2.1)]
                            clear g1 HFK
                            refine wp_region_later (by kernel_rfl) (by kernel_rfl) ?_
                            repeat (go_big_quiet_step (fail))
                            refine wpQuiet_nil ?_
                            intro _ hw'
                            obtain ⟨nq, rfl⟩ := hw'
                            have B10 := Lib.hid (btr B9.out nq.below)
                            have X10 := Lib.hid (X9.out.below nq.below)
                            clear z0 p0 p1 p2 p3 q3 m2 m4 m5 hmul hsub
                            generalize nq.at_ = w10 at B10 X10 ⊢
                            go_wp2_with fail
                            go_roundw
                            case rel => exact ⟨k + 1, o, by omega, by rw [Int.natCast_succ], rfl, .inr HAF.out.symm, B10.out, X10.out, HSKIP.out⟩
                            case measure => simp only [intOf]; omega
                        · have q5 := toList_ne hnv
                          have HSKIP : Hid (o = ((N.take (k + 1)).map pairN).foldl (lastK A ⟨e.chan, e.cap, u, v⟩) (([wayE e 0, wayE e 1].take j).foldl (lastW A R0) ((waysGo A.bad (E.take i)).foldl (lastW A R0) none))) := by
                            show _ = _
                            rw [HFK.out]; unfold lastK candK pairN; dsimp only
                            rw [if_neg (fun h => hnv h.1)]
                          clear hnv HFK
                          refine wp_region_later (by kernel_rfl) (by kernel_rfl) ?_
                          repeat (go_big_quiet_step (fail))
                          refine wpQuiet_nil ?_
                          intro _ hw'
                          obtain ⟨nq, rfl⟩ := hw'
                          have B10 := Lib.hid (btr B9.out nq.below)
                          have X10 := Lib.hid (X9.out.below nq.below)
                          clear z0 p0 p1 p2 p3 q3 m2 m4 m5 hmul hsub
                          generalize nq.at_ = w10 at B10 X10 ⊢
                          go_wp2_with fail
                          go_roundw
                          case rel => exact ⟨k + 1, o, by omega, by rw [Int.natCast_succ], rfl, .inr HAF.out.symm, B10.out, X10.out, HSKIP.out⟩
                          case measure => simp only [intOf]; omega
                      · have hb9 : Below wr.heap.size wr ((((w8.setCell ⟨wr.heap.size, 0, none⟩ (.string ⟨#[]⟩)).setCell ⟨wr.heap.size, 1, none⟩ (.int .i64 t.e.amt)).setCell ⟨wr.heap.size, 2, none⟩ (.int .i64 t.e.exp)).setCell ⟨wr.heap.size, 3, none⟩ (.slice oo (t.e.hops.length + 1) oc)) := below_fr hb8 fr4_set (Nat.le_refl _) hs8
                        have hr9 : RowsAt 4 hpC oo (⟨e.chan, t.node, t.e.amt, t.e.exp⟩ :: t.e.hops) ((((w8.setCell ⟨wr.heap.size, 0, none⟩ (.string ⟨#[]⟩)).setCell ⟨wr.heap.size, 1, none⟩ (.int .i64 t.e.amt)).setCell ⟨wr.heap.size, 2, none⟩ (.int .i64 t.e.exp)).setCell ⟨wr.heap.size, 3, none⟩ (.slice oo (t.e.hops.length + 1) oc)) := rows_fr R8.out (fun b off e' _ => hops_ne (v := .bool true) R8.out hk8 b off e') fr4_set
                        have hx9 : ((((w8.setCell ⟨wr.heap.size, 0, none⟩ (.string ⟨#[]⟩)).setCell ⟨wr.heap.size, 1, none⟩ (.int .i64 t.e.amt)).setCell ⟨wr.heap.size, 2, none⟩ (.int .i64 t.e.exp)).setCell ⟨wr.heap.size, 3, none⟩ (.slice oo (t.e.hops.length + 1) oc)).heap[wr.heap.size]? = some (.cells #[.string ⟨#[]⟩, .int .i64 t.e.amt, .int .i64 t.e.exp, .slice oo (t.e.hops.length + 1) oc] 151 (0, 0)) := row4_set hk8
                        clear hb8 hs8 hk8 y0 y1 y2 y3 yl f0 f1 f2 f3
                        generalize ((((w8.setCell ⟨wr.heap.size, 0, none⟩ (.string ⟨#[]⟩)).setCell ⟨wr.heap.size, 1, none⟩ (.int .i64 t.e.amt)).setCell ⟨wr.heap.size, 2, none⟩ (.int .i64 t.e.exp)).setCell ⟨wr.heap.size, 3, none⟩ (.slice oo (t.e.hops.length + 1) oc)) = w9 at hb9 hr9 hx9 ⊢
                        generalize hxb : wr.heap.size = xb at hx9 ⊢
                        have B9 := Lib.hid (btr hB.out hb9)
                        have X9 := Lib.hid (hX.out.below hb9)
                        have z0 := cell_later' hb9 x0
                        have q3 := cell_later' hb9 c3
                        have m2 := cell_later' hb9 a2
                        have m4 := cell_later' hb9 a4
                        have m5 := cell_later' hb9 a5
                        obtain ⟨p0, p1, p2, p3, pl⟩ := cells4 hx9
                        have HX9 := Lib.hid hx9
                        have HR9 := Lib.hid hr9
                        clear hb9 hx9 hr9 x0 x1 x2 x3 c0 c3 a0 a1 a2 a3 a4 a5 a6 al pl
                        go_wp2_with fail
                        replace z0 := Later.cell z0; replace q3 := Later.cell q3; replace m2 := Later.cell m2; replace m4 := Later.cell m4; replace m5 := Later.cell m5; replace p0 := Later.cell p0; replace p1 := Later.cell p1; replace p2 := Later.cell p2; replace p3 := Later.cell p3
                        by_cases hnv : t.node = v
                        · subst hnv
                          by_cases g1 : t.e.amt ≤ e.cap * 1000
                          · have d1 : decide (t.e.amt ≤ e.cap * 1000) = true := decide_eq_true g1
                            by_cases g2 : t.e.amt - A.amt ≤ afee
                            · have d2 : decide (t.e.amt - A.amt ≤ afee) = true := decide_eq_true g2
                              by_cases g3 : t.e.exp ≤ alat
                              · have d3 : decide (t.e.exp ≤ alat) = true := decide_eq_true g3
                                have HCK : Hid (lastK A ⟨e.chan, e.cap, u, t.node⟩ o (t.node, t.e) = some (bestE o (⟨t.e.amt, t.e.exp, ⟨e.chan, t.node, t.e.amt, t.e.exp⟩ :: t.e.hops⟩ : En))) := by
                                  show _ = _
                                  unfold lastK candK
                                  dsimp only
                                  rw [if_pos ⟨rfl, g1, by rw [HAE.out]; exact g2, by rw [HAL.out]; exact g3⟩]
                                clear g1 g2 g3
                                cases o with
                                | none =>
                                  have HSKIP : Hid (some (⟨t.e.amt, t.e.exp, ⟨e.chan, t.node, t.e.amt, t.e.exp⟩ :: t.e.hops⟩ : En) = ((N.take (k + 1)).map pairN).foldl (lastK A ⟨e.chan, e.cap, u, t.node⟩) (([wayE e 0, wayE e 1].take j).foldl (lastW A R0) ((waysGo A.bad (E.take i)).foldl (lastW A R0) none))) := by show _ = _; rw [HFK.out]; exact HCK.out.symm
                                  clear HFK HCK
                                  refine wp_region_later (by kernel_rfl) (by kernel_rfl) ?_
                                  repeat (go_big_quiet_step (fail))
                                  refine wpQuiet_nil ?_
                                  intro _ hw'
                                  obtain ⟨nq, rfl⟩ := hw'
                                  have B10 := Lib.hid (btr B9.out nq.below)
                                  have X10 := Lib.hid (X9.out.below nq.below)
                                  have R10 := Lib.hid (HR9.out.below nq.below)
                                  have hx10 : nq.at_.heap[xb]? = some (.cells #[.string ⟨#[]⟩, .int .i64 t.e.amt, .int .i64 t.e.exp, .slice oo (t.e.hops.length + 1) oc] 151 (0, 0)) := (nq.below.block xb (lt_of_heap HX9.out)).trans HX9.out
                                  clear z0 p0 p1 p2 p3 q3 m2 m4 m5 hmul hsub
                                  generalize nq.at_ = w10 at B10 X10 R10 hx10 ⊢
                                  obtain ⟨y0, y1, y2, y3, yl⟩ := cells4 hx10
                                  obtain ⟨rx, ry, ra, rn, rc, hbrow⟩ := X10.out.row
                                  have hbbq := HBQ.out
                                  have B11 : Hid (Below w3.heap.size w3 (w10.setRow bb #[.string ⟨#[]⟩, .int .i64 t.e.amt, .int .i64 t.e.exp, .slice oo (t.e.hops.length + 1) oc])) := below_setRow B10.out (by omega) _
                                  have X11 : Hid (BestAt (w10.setRow bb #[.string ⟨#[]⟩, .int .i64 t.e.amt, .int .i64 t.e.exp, .slice oo (t.e.hops.length + 1) oc]) w.heap.size bb (some (⟨t.e.amt, t.e.exp, ⟨e.chan, t.node, t.e.amt, t.e.exp⟩ :: t.e.hops⟩ : En))) := ⟨oo, oc, setRow_heap w10 bb _ _ 151 _ hbrow, rows_fr R10.out (fun b off e' _ => hops_neS R10.out hbrow b off e') ((Fr.refl (fun q => q = bb) w10).setR bb _ (fun _ => rfl)), HNEW.out, by have := HTL.out; simp only [List.length_cons]; omega⟩
                                  have HBR := Lib.hid hbrow
                                  clear hbrow hx10 hbbq
                                  go_wp2_with (with_reducible refine wpList_store_row rfl 151 (.tmp 20) (.tmp 225) rfl bb #[.string ⟨#[]⟩, .int .i64 t.e.amt, .int .i64 t.e.exp, .slice oo (t.e.hops.length + 1) oc] rfl rfl 151 _ HBR.out (by kernel_rfl) rfl (by simp [Value.oneCell']) ?_)
                                  go_roundw
                                  case rel => exact ⟨k + 1, some (⟨t.e.amt, t.e.exp, ⟨e.chan, t.node, t.e.amt, t.e.exp⟩ :: t.e.hops⟩ : En), by omega, by rw [Int.natCast_succ], rfl, .inr HAF.out.symm, B11.out, X11.out, HSKIP.out⟩
                                  case measure => simp only [intOf]; omega
                                | some y =>
                                  obtain ⟨ya, yc, hyrow, hyr, hyn, hyl⟩ := X9.out
                                  obtain ⟨r0, r1, r2, r3, rl⟩ := cells4 hyrow
                                  replace r0 := Later.cell r0; replace r1 := Later.cell r1; replace r2 := Later.cell r2; replace r3 := Later.cell r3
                                  have HBT : Hid (∀ n : Later w9, Calls Tryz.prog 87 #[.agg #[.string ⟨#[]⟩, .int .i64 t.e.amt, .int .i64 t.e.exp, .slice oo (t.e.hops.length + 1) oc], .agg #[.string ⟨#[]⟩, .int .i64 y.amt, .int .i64 y.exp, .slice ya y.hops.length yc]] n.at_ fun ee w' => ee = .returned (.bool (betB (⟨t.e.amt, t.e.exp, ⟨e.chan, t.node, t.e.amt, t.e.exp⟩ :: t.e.hops⟩ : En) y)) ∧ Below n.at_.heap.size n.at_ w') := fun n => better_any ⟨⟨#[]⟩, (⟨t.e.amt, t.e.exp, ⟨e.chan, t.node, t.e.amt, t.e.exp⟩ :: t.e.hops⟩ : En), oo, oc⟩ ⟨⟨#[]⟩, y, ya, yc⟩ n.at_ (HR9.out.below n.below) (hyr.below n.below) (by have := HTL.out; simp only [List.length_cons]; omega) (by dsimp only; omega)
                                  clear hyrow hyr hyn hyl rl
                                  cases hbt : betB (⟨t.e.amt, t.e.exp, ⟨e.chan, t.node, t.e.amt, t.e.exp⟩ :: t.e.hops⟩ : En) y with
                                  | true =>
                                    rw [hbt] at HBT
                                    have HSKIP : Hid (some (⟨t.e.amt, t.e.exp, ⟨e.chan, t.node, t.e.amt, t.e.exp⟩ :: t.e.hops⟩ : En) = ((N.take (k + 1)).map pairN).foldl (lastK A ⟨e.chan, e.cap, u, t.node⟩) (([wayE e 0, wayE e 1].take j).foldl (lastW A R0) ((waysGo A.bad (E.take i)).foldl (lastW A R0) none))) := by
                                      show _ = _
                                      rw [HFK.out]
                                      refine Eq.trans ?_ HCK.out.symm
                                      unfold bestE; dsimp only; rw [if_pos hbt]
                                    clear HFK HCK hbt
                                    refine wp_region_later (by kernel_rfl) (by kernel_rfl) ?_
                                    repeat (go_big_quiet_step ((go_at_call 87; exact calls_later (HBT.out _))))
                                    refine wpQuiet_nil ?_
                                    intro _ hw'
                                    obtain ⟨nq, rfl⟩ := hw'
                                    have B10 := Lib.hid (btr B9.out nq.below)
                                    have X10 := Lib.hid (X9.out.below nq.below)
                                    have R10 := Lib.hid (HR9.out.below nq.below)
                                    have hx10 : nq.at_.heap[xb]? = some (.cells #[.string ⟨#[]⟩, .int .i64 t.e.amt, .int .i64 t.e.exp, .slice oo (t.e.hops.length + 1) oc] 151 (0, 0)) := (nq.below.block xb (lt_of_heap HX9.out)).trans HX9.out
                                    clear z0 p0 p1 p2 p3 q3 m2 m4 m5 hmul hsub r0 r1 r2 r3
                                    generalize nq.at_ = w10 at B10 X10 R10 hx10 ⊢
                                    obtain ⟨y0, y1, y2, y3, yl⟩ := cells4 hx10
                                    obtain ⟨rx, ry, ra, rn, rc, hbrow⟩ := X10.out.row
                                    have hbbq := HBQ.out
                                    have B11 : Hid (Below w3.heap.size w3 (w10.setRow bb #[.string ⟨#[]⟩, .int .i64 t.e.amt, .int .i64 t.e.exp, .slice oo (t.e.hops.length + 1) oc])) := below_setRow B10.out (by omega) _
                                    have X11 : Hid (BestAt (w10.setRow bb #[.string ⟨#[]⟩, .int .i64 t.e.amt, .int .i64 t.e.exp, .slice oo (t.e.hops.length + 1) oc]) w.heap.size bb (some (⟨t.e.amt, t.e.exp, ⟨e.chan, t.node, t.e.amt, t.e.exp⟩ :: t.e.hops⟩ : En))) := ⟨oo, oc, setRow_heap w10 bb _ _ 151 _ hbrow, rows_fr R10.out (fun b off e' _ => hops_neS R10.out hbrow b off e') ((Fr.refl (fun q => q = bb) w10).setR bb _ (fun _ => rfl)), HNEW.out, by have := HTL.out; simp only [List.length_cons]; omega⟩
                                    have HBR := Lib.hid hbrow
                                    clear hbrow hx10 hbbq
                                    go_wp2_with (with_reducible refine wpList_store_row rfl 151 (.tmp 20) (.tmp 225) rfl bb #[.string ⟨#[]⟩, .int .i64 t.e.amt, .int .i64 t.e.exp, .slice oo (t.e.hops.length + 1) oc] rfl rfl 151 _ HBR.out (by kernel_rfl) rfl (by simp [Value.oneCell']) ?_)
                                    go_roundw
                                    case rel => exact ⟨k + 1, some (⟨t.e.amt, t.e.exp, ⟨e.chan, t.node, t.e.amt, t.e.exp⟩ :: t.e.hops⟩ : En), by omega, by rw [Int.natCast_succ], rfl, .inr HAF.out.symm, B11.out, X11.out, HSKIP.out⟩
                                    case measure => simp only [intOf]; omega
                                  | false =>
                                    rw [hbt] at HBT
                                    have HSKIP : Hid (some y = ((N.take (k + 1)).map pairN).foldl (lastK A ⟨e.chan, e.cap, u, t.node⟩) (([wayE e 0, wayE e 1].take j).foldl (lastW A R0) ((waysGo A.bad (E.take i)).foldl (lastW A R0) none))) := by
                                      show _ = _
                                      rw [HFK.out]
                                      refine Eq.trans ?_ HCK.out.symm
                                      unfold bestE; dsimp only; rw [if_neg (by rw [hbt]; decide)]
                                    clear HFK HCK hbt
                                    refine wp_region_later (by kernel_rfl) (by kernel_rfl) ?_
                                    repeat (go_big_quiet_step ((go_at_call 87; exact calls_later (HBT.out _))))
                                    refine wpQuiet_nil ?_
                                    intro _ hw'
                                    obtain ⟨nq, rfl⟩ := hw'
                                    have B10 := Lib.hid (btr B9.out nq.below)
                                    have X10 := Lib.hid (X9.out.below nq.below)
                                    clear z0 p0 p1 p2 p3 q3 m2 m4 m5 hmul hsub r0 r1 r2 r3
                                    generalize nq.at_ = w10 at B10 X10 ⊢
                                    go_wp2_with fail
                                    go_roundw
                                    case rel => exact ⟨k + 1, some y, by omega, by rw [Int.natCast_succ], rfl, .inr HAF.out.symm, B10.out, X10.out, HSKIP.out⟩
                                    case measure => simp only [intOf]; omega
                              · have d3 : decide (t.e.exp ≤ alat) = false := decide_eq_false g3
                                have HSKIP : Hid (o = ((N.take (k + 1)).map pairN).foldl (lastK A ⟨e.chan, e.cap, u, t.node⟩) (([wayE e 0, wayE e 1].take j).foldl (lastW A R0) ((waysGo A.bad (E.take i)).foldl (lastW A R0) none))) := by
                                  show _ = _
                                  rw [HFK.out]; unfold lastK candK pairN; dsimp only
                                  rw [if_neg (by rw [HAL.out]; exact fun h => g3 h.2.2.2)]
                                clear g1 g2 g3 HFK
                                refine wp_region_later (by kernel_rfl) (by kernel_rfl) ?_
                                repeat (go_big_quiet_step (fail))
                                refine wpQuiet_nil ?_
                                intro _ hw'
                                obtain ⟨nq, rfl⟩ := hw'
                                have B10 := Lib.hid (btr B9.out nq.below)
                                have X10 := Lib.hid (X9.out.below nq.below)
                                clear z0 p0 p1 p2 p3 q3 m2 m4 m5 hmul hsub
                                generalize nq.at_ = w10 at B10 X10 ⊢
                                go_wp2_with fail
                                go_roundw
                                case rel => exact ⟨k + 1, o, by omega, by rw [Int.natCast_succ], rfl, .inr HAF.out.symm, B10.out, X10.out, HSKIP.out⟩
                                case measure => simp only [intOf]; omega
                            · have d2 : decide (t.e.amt - A.amt ≤ afee) = false := decide_eq_false g2
                              have HSKIP : Hid (o = ((N.take (k + 1)).map pairN).foldl (lastK A ⟨e.chan, e.cap, u, t.node⟩) (([wayE e 0, wayE e 1].take j).foldl (lastW A R0) ((waysGo A.bad (E.take i)).foldl (lastW A R0) none))) := by
                                show _ = _
                                rw [HFK.out]; unfold lastK candK pairN; dsimp only
                                rw [if_neg (by rw [HAE.out]; exact fun h => g2 h.2.2.1)]
                              clear g1 g2 HFK
                              refine wp_region_later (by kernel_rfl) (by kernel_rfl) ?_
                              repeat (go_big_quiet_step (fail))
                              refine wpQuiet_nil ?_
                              intro _ hw'
                              obtain ⟨nq, rfl⟩ := hw'
                              have B10 := Lib.hid (btr B9.out nq.below)
                              have X10 := Lib.hid (X9.out.below nq.below)
                              clear z0 p0 p1 p2 p3 q3 m2 m4 m5 hmul hsub
                              generalize nq.at_ = w10 at B10 X10 ⊢
                              go_wp2_with fail
                              go_roundw
                              case rel => exact ⟨k + 1, o, by omega, by rw [Int.natCast_succ], rfl, .inr HAF.out.symm, B10.out, X10.out, HSKIP.out⟩
                              case measure => simp only [intOf]; omega
                          · have d1 : decide (t.e.amt ≤ e.cap * 1000) = false := decide_eq_false g1
                            have HSKIP : Hid (o = ((N.take (k + 1)).map pairN).foldl (lastK A ⟨e.chan, e.cap, u, t.node⟩) (([wayE e 0, wayE e 1].take j).foldl (lastW A R0) ((waysGo A.bad (E.take i)).foldl (lastW A R0) none))) := by
                              show _ = _
                              rw [HFK.out]; unfold lastK candK pairN; dsimp only
                              rw [if_neg (fun h => g1 h.2.1)]
                            clear g1 HFK
                            refine wp_region_later (by kernel_rfl) (by kernel_rfl) ?_
                            repeat (go_big_quiet_step (fail))
                            refine wpQuiet_nil ?_
                            intro _ hw'
                            obtain ⟨nq, rfl⟩ := hw'
                            have B10 := Lib.hid (btr B9.out nq.below)
                            have X10 := Lib.hid (X9.out.below nq.below)
                            clear z0 p0 p1 p2 p3 q3 m2 m4 m5 hmul hsub
                            generalize nq.at_ = w10 at B10 X10 ⊢
                            go_wp2_with fail
                            go_roundw
                            case rel => exact ⟨k + 1, o, by omega, by rw [Int.natCast_succ], rfl, .inr HAF.out.symm, B10.out, X10.out, HSKIP.out⟩
                            case measure => simp only [intOf]; omega
                        · have q5 := toList_ne hnv
                          have HSKIP : Hid (o = ((N.take (k + 1)).map pairN).foldl (lastK A ⟨e.chan, e.cap, u, v⟩) (([wayE e 0, wayE e 1].take j).foldl (lastW A R0) ((waysGo A.bad (E.take i)).foldl (lastW A R0) none))) := by
                            show _ = _
                            rw [HFK.out]; unfold lastK candK pairN; dsimp only
                            rw [if_neg (fun h => hnv h.1)]
                          clear hnv HFK
                          refine wp_region_later (by kernel_rfl) (by kernel_rfl) ?_
                          repeat (go_big_quiet_step (fail))
                          refine wpQuiet_nil ?_
                          intro _ hw'
                          obtain ⟨nq, rfl⟩ := hw'
                          have B10 := Lib.hid (btr B9.out nq.below)
                          have X10 := Lib.hid (X9.out.below nq.below)
                          clear z0 p0 p1 p2 p3 q3 m2 m4 m5 hmul hsub
                          generalize nq.at_ = w10 at B10 X10 ⊢
                          go_wp2_with fail
                          go_roundw
                          case rel => exact ⟨k + 1, o, by omega, by rw [Int.natCast_succ], rfl, .inr HAF.out.symm, B10.out, X10.out, HSKIP.out⟩
                          case measure => simp only [intOf]; omega
                    · have hk0 : k = 0 := hkc.resolve_right (fun h => hgood (h.trans haf))
                      have HEX : Hid (o = (([wayE e 0, wayE e 1].take (j + 1)).foldl (lastW A R0) ((waysGo A.bad (E.take i)).foldl (lastW A R0) none))) := by
                        show _ = _
                        rw [HB4.out, ← lastD_eq _ _ _ _ HND.out, hF.out, hk0]
                        unfold lastD
                        rw [if_neg (by rw [haf]; exact hgood)]; rfl
                      have q1 := toList_ne hgood
                      clear hk0 hkc hF haf hk hgood
                      go_wp2_with fail
                      go_roundw
                      case rel => exact ⟨j + 1, o, by have := HJ.out; omega, by rw [Int.natCast_succ], rfl, (by first | exact .inr HCB.out | exact .inr trivial), hB.out, hX.out, HEX.out⟩
                      case measure => have := HJ.out; simp only [intOf]; omega
                  · obtain rfl : k = N.length := by omega
                    rw [List.take_length, hR.out] at hF
                    have HEX : Hid (o = (([wayE e 0, wayE e 1].take (j + 1)).foldl (lastW A R0) ((waysGo A.bad (E.take i)).foldl (lastW A R0) none))) := by
                      show _ = _
                      rw [HB4.out, ← lastD_eq _ _ _ _ HND.out, hF.out]
                      unfold lastD
                      by_cases hgood : u = af
                      · rw [if_pos (by rw [haf]; exact hgood)]
                      · have hk0 : N.length = 0 := hkc.resolve_right (fun h => hgood (h.trans haf))
                        have h1 := hR.out
                        rw [List.length_eq_zero_iff.1 hk0] at h1
                        rw [← h1]
                        rw [if_neg (by rw [haf]; exact hgood)]; rfl
                    clear hkc hF haf hk hlt4
                    go_wp2_with fail
                    go_roundw
                    case rel => exact ⟨j + 1, o, by have := HJ.out; omega, by rw [Int.natCast_succ], rfl, (by first | exact .inr HCB.out | exact .inr trivial), hB.out, hX.out, HEX.out⟩
                    case measure => have := HJ.out; simp only [intOf]; omega
            · obtain rfl : j = 2 := by omega
              have hjj : ¬ (2 : Int) < 2 := by omega
              have hcb : countsB E A.bad i = true := hjc.resolve_left (by decide)
              have HEX : Hid (o = (waysGo A.bad (E.take (i + 1))).foldl (lastW A R0) none) := by
                show _ = _
                rw [HWT.out, hcb, hF.out, if_pos rfl, List.foldl_append]; rfl
              clear hcb hj hj2 hjc hF
              go_wp2_with fail
              go_roundw
              case rel => exact ⟨i + 1, o, HILT.out, by rw [Int.natCast_succ], rfl, hB.out, hX.out, HEX.out⟩
              case measure => have := HILT.out; simp only [intOf]; omega
        · obtain rfl : i = E.length := by omega
          have HO2 : Hid (o = out) := by
            have h1 := hF.out
            rw [List.take_length, HWY.out] at h1
            exact h1.trans HFB.out
          clear hF hi hlt2
          obtain ⟨bx, by_, ba, bn, bc, hbrow⟩ := hX.out.row
          have HBW : Hid (Below w.heap.size w wr) := btr hD.out.bel hB.out
          cases o with
          | none =>
            have hoo : out = none := HO2.out.symm
            subst hoo
            clear hbrow
            go_wp2_with fail
            go_ret2
            exact ⟨HBW.out, none, 0, rfl, .inl rfl, fun h => absurd rfl h⟩
          | some x =>
            have hoo : out = some x := HO2.out.symm
            subst hoo
            clear hbrow
            obtain ⟨a, c, h1, h2, h3, h4⟩ := hX.out
            have HA2 := Lib.hid h2
            have HA3 := Lib.hid h3
            obtain ⟨y0, y1, y2, y3, yl⟩ := cells4 h1
            clear h1 h2 h3 h4
            go_wp2_with fail
            go_ret2
            exact ⟨HBW.out, a, c, rfl, HA2.out, fun _ => HA3.out⟩
end Go.Proofs.YtbdimlppnhcicaaGreatDoor
