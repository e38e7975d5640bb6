import Derived.BigRegion
import Derived.Laws.MakeOwn
import Derived.Deep.CutBlock
import Derived.StillTailTactics
import Derived.Lib.ParseIntB
import Derived.Lib.Bytealg
import Derived.Lib.ItoaNum
import Derived.Lib.ParseIntBCases
import Derived.Shelf.Strings.Builder1
import Derived.Shelf.Small.Bits
import Derived.Shelf.Small.Strs
import Derived.Shelf.Small.Wraps
import Derived.Shelf.Strings.BuilderF
import Derived.Shelf.Strings.BuilderK
import Derived.Shelf.Strconv.Itoa0
import Derived.Shelf.Strconv.Itoa1
import Derived.Shelf.LaysM
import Derived.Shelf.Strconv.Itoa2
import Derived.Shelf.Strconv.Itoa3
import Derived.Shelf.Strconv.Itoa4
import Derived.Shelf.Strconv.ParseIntEmpty
import Derived.Shelf.Strconv.Clone
import Derived.Shelf.Strconv.SyntaxError
import Derived.Shelf.LaysC
import Derived.Shelf.Strconv.ToError
import Derived.Shelf.Strconv.Lower
import Derived.Shelf.Strconv.ParseUint10
import Derived.Shelf.Strconv.ParseUint10Empty
import Derived.Shelf.Strconv.ParseUint10Any
import Derived.Shelf.Strconv.ParseInt10
import Derived.Shelf.Strconv.RangeError
import Derived.Shelf.Strconv.ToErrorRange
import Derived.Shelf.Strconv.ParseUintEmpty
import Derived.Shelf.Strconv.ParseUint10b64
import Derived.Shelf.Strconv.ParseUint10b32
import Derived.Shelf.Strconv.ParseUint10b16
import Derived.Shelf.Strconv.ParseUint10b8
import Derived.Shelf.Strconv.ParseUint10At
import Derived.Shelf.Strconv.ParseInt10At64
import Derived.Shelf.Strconv.ParseInt10At32
import Derived.Shelf.Strconv.ParseInt10At16
import Derived.Shelf.Strconv.ParseInt10At8
import Derived.Shelf.Strconv.ParseInt10All
import Derived.Shelf.Strconv.ParseIntPublic10
import Derived.Shelf.Strconv.ErrVarParseInt
import Derived.Shelf.Strings.Search1
import Derived.Shelf.Bits.Mul64
import Derived.Shelf.Strings.BuilderCap
import Derived.Ground.Names2Prog
import Derived.Shelf.Slices.SearchI
import Derived.WalkKit
import Derived.WalkSpells
import Derived.WalkLawsBesides
import Derived.Handy
import Derived.Lib.Hide
import Derived.Deep.QuietTactic
import Derived.BigQuiet
import Derived.Deep.RegionHeld3
import Derived.Lib.Strings
import Derived.Lib.IndexBytes
import Derived.Deep.RegionLaw
import Derived.Deep.AppendLies
import Derived.Deep.LoopGhost
import Derived.Deep.Onto
import Derived.Deep.WholeRow
import Derived.Deep.CutRange
import Derived.Laws.CopyOwn
import Derived.Lib.ItoaLen
import Derived.Lib.AppendIntMem
import Derived.Deep.MidRow
import Derived.Deep.RegionHeld
import Derived.Outline
import Derived.Laws.Tables
import Derived.Laws.OwnMore
import Derived.WalkMore
import Derived.MapKept
import Derived.Carry
import Derived.Test.YtbdimlppnhcicaaDoorRows
import Derived.Test.YtbdimlppnhcicaaDoorProg
import Derived.Test.YtbdimlppnhcicaaDoorNu
import Derived.Test.YtbdimlppnhcicaaDoorTa
import Derived.Test.YtbdimlppnhcicaaDoorRg
import Derived.Test.YtbdimlppnhcicaaDoorBa
import Derived.Test.YtbdimlppnhcicaaDoorRefI
import Derived.Test.YtbdimlppnhcicaaDoorWg
import Derived.Test.YtbdimlppnhcicaaDoorSo
import Derived.Test.YtbdimlppnhcicaaDoorOnA
import Derived.Test.YtbdimlppnhcicaaDoorOb
import Derived.Test.YtbdimlppnhcicaaDoorOe
import Derived.Test.YtbdimlppnhcicaaDoorMny
import Derived.Test.YtbdimlppnhcicaaDoorRo1
import Derived.Test.YtbdimlppnhcicaaDoorOf
import Derived.Test.YtbdimlppnhcicaaDoorOh
import Derived.Test.YtbdimlppnhcicaaDoorOj
import Derived.Test.YtbdimlppnhcicaaDoorRo2
import Derived.Test.YtbdimlppnhcicaaDoorRo3
import Derived.Test.YtbdimlppnhcicaaDoorRo4
import Derived.Test.YtbdimlppnhcicaaDoorRo5
import Derived.Test.YtbdimlppnhcicaaDoorRo6
import Derived.Test.YtbdimlppnhcicaaDoorRu2
import Derived.Test.YtbdimlppnhcicaaDoorDr
namespace Go.Proofs.YtbdimlppnhcicaaDoor
set_option linter.unusedVariables false
open Go.RowKit Rte
/-! route: a long row of channels -/
def lbS (i : Nat) : ByteArray := ⟨#[49, UInt8.ofNat (48 + i / 10), UInt8.ofNat (48 + i % 10)]⟩
def zE (i : Nat) : Edg := ⟨⟨#[99]⟩ ++ lbS i, pnS (lbS i), pnS (lbS (i + 1)), 1000⟩
def zP (i : Nat) : Plc := ⟨⟨#[99]⟩ ++ lbS i, pnS (lbS i), 0, 10, 0, 5, 0, 1000000, false⟩
def zEs (n : Nat) : List Edg := (List.range n).map zE
def zPs (n : Nat) : List Plc := (List.range n).map zP
def zAsk (f : ByteArray) : AskR := ⟨f, ⟨#[80, 110, 49, 50, 49, 59]⟩, 500, 40, 100000, 100000, []⟩
def zF1 : ByteArray := ⟨#[80, 110, 49, 48, 49, 59]⟩
def zF0 : ByteArray := ⟨#[80, 110, 49, 48, 48, 59]⟩
/-- an address in memory from a block on -/
def NewA (B : Nat) (o : Option Addr) : Prop := ∃ b, o = some ⟨b, 0, none⟩ ∧ B ≤ b
theorem NewA.weak {B B' : Nat} {o : Option Addr} (h : NewA B o) (hb : B' ≤ B) : NewA B' o := by obtain ⟨b, h1, h2⟩ := h; exact ⟨b, h1, Nat.le_trans hb h2⟩
theorem own_new {w : World} {base E n m k : Nat} {a : Option Addr} {xs : List Value} (h : w.ownsRow base E n (.slice a m k) m xs) (hm : 0 < m) : NewA base a := by
  rcases h.2 with ⟨_, h0⟩ | ⟨g, cap, cur, h1, h2, _⟩
  · omega
  · cases h1; exact ⟨g, rfl, h2⟩
theorem rows_fr {α : Type} {n : Nat} {cells : α → List Value} {o : Option Addr} {l : List α} {W W' : World} {g : Nat} (h : RowsAt n cells o l W) (hn : ∀ b off, o = some ⟨b, off, none⟩ → l ≠ [] → b ≠ g) (hF : Fr (fun i => i = g) W W') : RowsAt n cells o l W' := by
  rcases h with h | ⟨b, off, h1, h2⟩
  · exact .inl h
  · refine .inr ⟨b, off, h1, fun k x hx j v hv => ?_⟩
    have hc := h2 k x hx j v hv
    have hlt := World.block_lt_of_cell? W _ hc
    rw [World.cell?_of_block (hF.block b hlt (hn b off h1 (fun e => by rw [e] at hx; simp at hx)))]
    exact hc
theorem rows_lt {α : Type} {n : Nat} {cells : α → List Value} (hn : 0 < n) (hcl : ∀ x, (cells x).length = n) {o : Option Addr} {l : List α} {W : World} (h : RowsAt n cells o l W) : ∀ b off, o = some ⟨b, off, none⟩ → l ≠ [] → b < W.heap.size := by
  rintro b off rfl hl
  rcases h with h | ⟨b', off', e, hc⟩
  · exact absurd h hl
  · cases e
    obtain ⟨x, l', rfl⟩ := List.exists_cons_of_ne_nil hl
    have h0 := hc 0 x rfl 0 _ (List.getElem?_eq_getElem (by rw [hcl]; exact hn))
    exact World.block_lt_of_cell? W _ h0
theorem find_z1 : findN isKey (zEs 21) (zPs 21) (zAsk zF1) = ((findN isKey (zEs 21) (zPs 21) (zAsk zF1)).1, 0) := by kernel_rfl
theorem find_z2 : (findN isKey (zEs 21) (zPs 21) (zAsk zF1)).1.length = 20 := by kernel_rfl
theorem find_z3 : (findN isKey (zEs 21) (zPs 21) (zAsk zF1)).1[0]?.map (fun h => (h.amt, h.exp)) = some (690, 135) := by kernel_rfl
theorem find_z4 : findN isKey (zEs 21) (zPs 21) (zAsk zF0) = ([], 260) := by kernel_rfl
theorem zs_next {α : Type} (f : Nat → α) (i : Nat) : (List.range (i + 1)).map f = (List.range i).map f ++ [f i] := by rw [List.range_succ, List.map_append]; rfl
theorem lb_at (a b : Nat) (ha : a < 256) (hb : b < 256) (w : World) (g : Nat) (h : w.heap[g]? = some (.cells #[.int .u8 49, .int .u8 (a : Int), .int .u8 (b : Int)] 5 (0, 0))) : (convert 67 9 (.slice (some ⟨g, 0, none⟩) 3 3)).run Tryd.prog w = .ok (.string ⟨#[49, UInt8.ofNat a, UInt8.ofNat b]⟩) w := by
  refine run_convert_bytes_back w 67 9 5 ⟨g, 0, none⟩ 3 [49, UInt8.ofNat a, UInt8.ofNat b] Tryd.underlying67 Tryd.underlying5 Tryd.underlying9 (fun j hj => ?_)
  have hj3 : j < 3 := by simpa using hj
  have e1 : ((UInt8.ofNat a).toNat : Int) = a := by simp only [UInt8.toNat_ofNat']; rw [Nat.mod_eq_of_lt ha]
  have e2 : ((UInt8.ofNat b).toNat : Int) = b := by simp only [UInt8.toNat_ofNat']; rw [Nat.mod_eq_of_lt hb]
  rcases (by omega : j = 0 ∨ j = 1 ∨ j = 2) with rfl | rfl | rfl
  · rw [Addr.add_lit, cell_of_row _ _ _ _ _ _ h]; rfl
  · rw [Addr.add_lit, cell_of_row _ _ _ _ _ _ h]
    show some (Value.int .u8 (a : Int)) = some (.int .u8 ((UInt8.ofNat a).toNat : Int))
    rw [e1]
  · rw [Addr.add_lit, cell_of_row _ _ _ _ _ _ h]
    show some (Value.int .u8 (b : Int)) = some (.int .u8 ((UInt8.ofNat b).toNat : Int))
    rw [e2]
/-- another row stays when a row of another type grows -/
theorem own_other {W w' : World} {tmp : Obj} {B E1 E2 n1 n2 m1 m2 : Nat} {v1 v2 : Value} {x1 x2 : List Value} (hE : E1 ≠ E2) (h1 : W.ownsRow B E1 n1 v1 m1 x1) (h2 : W.ownsRow B E2 n2 v2 m2 x2) (hg : (W.alloc tmp).grownBy w' v1.ownBlock) : w'.ownsRow B E2 n2 v2 m2 x2 := by
  refine ⟨h2.1, ?_⟩
  rcases h2.2 with h | ⟨g, cap, cur, e, hb, hk, h3, h4, h5, h6⟩
  · exact .inl h
  · refine .inr ⟨g, cap, cur, e, hb, ?_, h3, h4, h5, h6⟩
    have hl := lt_of_heap hk
    rw [hg.block g (by simp; omega) (fun e' => ?_)]
    · exact (heap_alloc_old W tmp hl).trans hk
    · rcases h1.2 with ⟨rfl, _⟩ | ⟨g', cap', cur', rfl, _, hk', _⟩
      · cases e'
      · cases e'
        rw [hk] at hk'
        cases hk'
        exact hE rfl
theorem Tryd.info91 : (Tryd.prog.info? 91).map (fun i => (i.zero, i.size, i.bytes)) = some (some (.agg #[.string ⟨#[]⟩, .string ⟨#[]⟩, .string ⟨#[]⟩, .int .i64 0]), 4, 56) := by kernel_rfl
theorem Tryd.info85 : (Tryd.prog.info? 85).map (fun i => (i.zero, i.size, i.bytes)) = some (some (.agg #[.string ⟨#[]⟩, .string ⟨#[]⟩, .int .i64 0, .int .i64 0, .int .i64 0, .int .i64 0, .int .i64 0, .int .i64 0, .bool false]), 9, 88) := by kernel_rfl
theorem grown_belB {w W w7 : World} {tmp : Obj} {base E n m : Nat} {v : Value} {xs : List Value} (hb : Below w.heap.size w W) (hbase : w.heap.size ≤ base) (h : W.ownsRow base E n v m xs) (hg : (W.alloc tmp).grownBy w7 v.ownBlock) : Below w.heap.size w w7 := by
  refine ⟨hg.os.trans hb.os, hg.tape.trans hb.tape, hg.output.trans hb.output, ?_, fun k hk => ?_⟩
  · have h1 := hg.size; have h2 := hb.size; simp at h1; omega
  · have h2 := hb.size
    rw [hg.block k (by simp; omega) (fun e => by have := (own_cellsB h e.symm).1; omega), heap_alloc_old W tmp (by omega), hb.block k hk]
set_option maxRecDepth 100000 in
set_option maxHeartbeats 16000000 in
theorem long_any (w : World) (hL : LibOk w) : Calls Tryd.prog 46 #[] w fun e w' => e = .returned (.bool true) ∧ Below w.heap.size w w' := by
  have HL := Lib.hid hL
  have HE := Lib.hid (fun n a b W (ha : a.size ≤ 1000) (hb : b.size ≤ 1000) => edge_r n a b W ha hb)
  have HP := Lib.hid (fun n a W (ha : a.size ≤ 1000) => policy_r n a W ha)
  obtain ⟨i1, hi1, hz10, hz11, hz12⟩ := info_parts Tryd.info91
  obtain ⟨i2, hi2, hz20, hz21, hz22⟩ := info_parts Tryd.info85
  clear hL
  go_enter Tryd.func46, Tryd.ntmps46
  go_wp2_with fail
  go_loopw [1, 2, 3] (fun ev pv iv wr => ∃ i : Nat, i ≤ 21 ∧ iv = .int .i64 i ∧ Hid (wr.ownsRow w.heap.size 91 4 ev i ((zEs i).flatMap edgC)) ∧ Hid (wr.ownsRow w.heap.size 85 9 pv i ((zPs i).flatMap plcC)) ∧ Hid (Below w.heap.size w wr)) (fun _ _ iv _ => 21 - (intOf iv).toNat)
  case atStart => exact ⟨0, Nat.zero_le _, rfl, World.ownsRow_nil _ _ _ _, World.ownsRow_nil _ _ _ _, Below.refl _ _⟩
  case round =>
    obtain ⟨i, hi, rfl, hO1, hO2, hB⟩ := hrel
    obtain ⟨ea, ec, rfl⟩ := own_slice hO1.out
    obtain ⟨pa, pc, rfl⟩ := own_slice hO2.out
    by_cases hlt : i < 21
    · have hii : (i : Int) < 21 := by omega
      have HLT := Lib.hid hlt
      obtain ⟨p, hp⟩ : ∃ p : Int, ((i / 10 : Nat) : Int) = p := ⟨_, rfl⟩
      obtain ⟨q, hq⟩ : ∃ q : Int, ((i % 10 : Nat) : Int) = q := ⟨_, rfl⟩
      obtain ⟨p', hp'⟩ : ∃ p : Int, (((i + 1) / 10 : Nat) : Int) = p := ⟨_, rfl⟩
      obtain ⟨q', hq'⟩ : ∃ q : Int, (((i + 1) % 10 : Nat) : Int) = q := ⟨_, rfl⟩
      have p0 : 0 ≤ p ∧ p ≤ 2 := by omega
      have q0 : 0 ≤ q ∧ q ≤ 9 := by omega
      have p0' : 0 ≤ p' ∧ p' ≤ 2 := by omega
      have q0' : 0 ≤ q' ∧ q' ≤ 9 := by omega
      have t1 : (i : Int).tdiv 10 = p := by rw [Int.tdiv_eq_ediv_of_nonneg (by omega)]; omega
      have t2 : (i : Int).tmod 10 = q := by rw [Int.tmod_eq_emod_of_nonneg (by omega)]; omega
      have t3 : ((i : Int) + 1).tdiv 10 = p' := by rw [Int.tdiv_eq_ediv_of_nonneg (by omega)]; omega
      have t4 : ((i : Int) + 1).tmod 10 = q' := by rw [Int.tmod_eq_emod_of_nonneg (by omega)]; omega
      have HS1 : Hid (∀ (W : World) (g : Nat), W.heap[g]? = some (.cells #[.int .u8 49, .int .u8 (48 + p), .int .u8 (48 + q)] 5 (0, 0)) → (convert 67 9 (.slice (some ⟨g, 0, none⟩) 3 3)).run Tryd.prog W = .ok (.string (lbS i)) W) := fun W g hg => lb_at (48 + i / 10) (48 + i % 10) (by omega) (by omega) W g (by rw [Int.natCast_add, Int.natCast_add, hp, hq]; exact hg)
      have HS2 : Hid (∀ (W : World) (g : Nat), W.heap[g]? = some (.cells #[.int .u8 49, .int .u8 (48 + p'), .int .u8 (48 + q')] 5 (0, 0)) → (convert 67 9 (.slice (some ⟨g, 0, none⟩) 3 3)).run Tryd.prog W = .ok (.string (lbS (i + 1))) W) := fun W g hg => lb_at (48 + (i + 1) / 10) (48 + (i + 1) % 10) (by omega) (by omega) W g (by rw [Int.natCast_add, Int.natCast_add, hp', hq']; exact hg)
      have w1 : IntKind.i64.wrap p = p := IntWalk.i64_in _ (by omega)
      have w2 : IntKind.i64.wrap p' = p' := IntWalk.i64_in _ (by omega)
      have w3 : IntKind.i64.wrap (48 + p) = 48 + p := IntWalk.i64_in _ (by omega)
      have w4 : IntKind.i64.wrap (48 + q) = 48 + q := IntWalk.i64_in _ (by omega)
      have w5 : IntKind.i64.wrap (48 + p') = 48 + p' := IntWalk.i64_in _ (by omega)
      have w6 : IntKind.i64.wrap (48 + q') = 48 + q' := IntWalk.i64_in _ (by omega)
      have u3 : IntKind.u8.wrap (48 + p) = 48 + p := IntWalk.u8_in _ (by omega)
      have u4 : IntKind.u8.wrap (48 + q) = 48 + q := IntWalk.u8_in _ (by omega)
      have u5 : IntKind.u8.wrap (48 + p') = 48 + p' := IntWalk.u8_in _ (by omega)
      have u6 : IntKind.u8.wrap (48 + q') = 48 + q' := IntWalk.u8_in _ (by omega)
      have w7 : IntKind.i64.wrap ((i : Int) + 1) = (i : Int) + 1 := IntWalk.i64_in _ (by omega)
      have HE1 := Lib.hid (zs_next zE i)
      have HP1 := Lib.hid (zs_next zP i)
      clear hp hq hp' hq' p0 q0 p0' q0' hi hlt
      go_upto_region 6 with fail
      go_cut [4, 5] from 11 to 51 (fun s1 s2 wx => s1 = .string (lbS i) ∧ s2 = .string (lbS (i + 1)) ∧ Hid (Below wr.heap.size wr wx))
      case first =>
        have c1 := HS1.out ((wr.alloc (.cells #[.int .u8 49, .int .u8 (48 + p), .int .u8 (48 + q)] 5)).drew) wr.heap.size (heap_alloc_at wr _)
        have c2 := HS1.out (((wr.alloc (.cells #[.int .u8 49, .int .u8 (48 + p), .int .u8 (48 + q)] 5)).alloc (.cells #[.int .u8 49, .int .u8 (48 + p'), .int .u8 (48 + q')] 5)).drew) wr.heap.size net_ask2.1
        have c3 := HS2.out (((wr.alloc (.cells #[.int .u8 49, .int .u8 (48 + p), .int .u8 (48 + q)] 5)).alloc (.cells #[.int .u8 49, .int .u8 (48 + p'), .int .u8 (48 + q')] 5)).drew) (wr.heap.size + 1) net_ask2.2
        have c4 := HS2.out ((wr.alloc (.cells #[.int .u8 49, .int .u8 (48 + p'), .int .u8 (48 + q')] 5)).drew) wr.heap.size (heap_alloc_at wr _)
        have c5 := HS2.out (((wr.alloc (.cells #[.int .u8 49, .int .u8 (48 + p'), .int .u8 (48 + q')] 5)).alloc (.cells #[.int .u8 49, .int .u8 (48 + p), .int .u8 (48 + q)] 5)).drew) wr.heap.size net_ask2.1
        have c6 := HS1.out (((wr.alloc (.cells #[.int .u8 49, .int .u8 (48 + p'), .int .u8 (48 + q')] 5)).alloc (.cells #[.int .u8 49, .int .u8 (48 + p), .int .u8 (48 + q)] 5)).drew) (wr.heap.size + 1) net_ask2.2
        go_region
        all_goals go_wp2_with fail
        all_goals go_meet
        all_goals exact ⟨rfl, rfl, Lib.hid (by repeat' (first | (with_reducible exact Below.refl _ _) | (with_reducible assumption) | (with_reducible refine Below.alloc ?_ ?_ _) | (with_reducible refine Below.drew ?_) | (with_reducible refine Below.setCell ?_ ?_ _) | (with_reducible refine bdN ?_ _) | assumption | go_size | (simp; omega)))⟩
      case rest =>
        obtain ⟨rfl, rfl, hB5⟩ := hcut
        have B5 := Lib.hid (btr hB.out hB5.out)
        have P1 := Lib.hid (own_below hO1.out hB5.out)
        have P2 := Lib.hid (own_below hO2.out hB5.out)
        have hs0 := hB.out.size
        have hs1 := B5.out.size
        clear hO1 hO2 HS1 HS2 t1 t2 t3 t4 w1 w2 w3 w4 w5 w6 u3 u4 u5 u6 hB5
        generalize wc = w5 at B5 P1 P2 hs1 ⊢
        have cc : ∀ W : World, (Op.stringOp .add ⟨#[99]⟩ (lbS i)).run Tryd.prog W = .ok (.string (⟨#[99]⟩ ++ lbS i)) W := fun W => cat_any _ _ (by show 1 + 3 ≤ _; omega) W
        have HEE : Hid (∀ W, Calls Tryd.prog 78 #[.string (⟨#[99]⟩ ++ lbS i), .string (lbS i), .string (lbS (i + 1))] W fun e w' => e = .returned (.agg #[.string (⟨#[99]⟩ ++ lbS i), .string (pnS (lbS i)), .string (pnS (lbS (i + 1))), .int .i64 1000]) ∧ Below W.heap.size W w') := fun W => HE.out _ _ _ W (by show 3 ≤ 1000; omega) (by show 3 ≤ 1000; omega)
        have HPP : Hid (∀ W, Calls Tryd.prog 79 #[.string (⟨#[99]⟩ ++ lbS i), .string (lbS i)] W fun e w' => e = .returned (.agg #[.string (⟨#[99]⟩ ++ lbS i), .string (pnS (lbS i)), .int .i64 0, .int .i64 10, .int .i64 0, .int .i64 5, .int .i64 0, .int .i64 1000000, .bool false]) ∧ Below W.heap.size W w') := fun W => HP.out _ _ W (by show 3 ≤ 1000; omega)
        go_upto_region 8 with (first
          | (go_at_call 78; (with_reducible refine Calls.mono (HEE.out _) ?_); rintro e7 w7 ⟨rfl, hb7⟩; have B7 := Lib.hid (btr B5.out hb7); have S1 := Lib.hid (own_below P1.out hb7); have S2 := Lib.hid (own_below P2.out hb7); have hs7 := B7.out.size; clear hb7)
          | (at_builtin; refine wpList_append_lies _ rfl _ _ _ rfl w.heap.size 91 i1 _ 4 56 Tryd.underlying71 hi1 hz10 hz11 hz12 rfl (by omega) (.slice ea i ec) i ((zEs i).flatMap edgC) rfl (World.ownsRow.alloc S1.out _) ⟨w7.heap.size, 0, none⟩ 1 1 #[.string (⟨#[99]⟩ ++ lbS i), .string (pnS (lbS i)), .string (pnS (lbS (i + 1))), .int .i64 1000].toList rfl rfl (World.news_of_block (cs := #[.string (⟨#[99]⟩ ++ lbS i), .string (pnS (lbS i)), .string (pnS (lbS (i + 1))), .int .i64 1000]) (t := 91) (fr := (0, 0)) (heap_alloc_at w7 _)) (by simp [Value.oneCell']) (by omega) (by unfold maxLen; omega) (by omega) (by simp; omega) (w7.heap.size + 1) (by simp) ?_; intro g9 cap9 w9 hown9 hgrow9 hat9 hlt9; have B9 : Hid (Below w.heap.size w w9) := grown_belB B7.out (Nat.le_refl _) S1.out hgrow9; have T1 := Lib.hid hown9; have T2 : Hid (w9.ownsRow w.heap.size 85 9 (.slice pa i pc) i ((zPs i).flatMap plcC)) := own_other (by decide) S1.out S2.out hgrow9; clear hown9 hgrow9 hat9 hlt9))
        have U1 : Hid (w9.ownsRow w.heap.size 91 4 (.slice (some ⟨g9, 0, none⟩) (i + 1) cap9) (i + 1) ((zEs (i + 1)).flatMap edgC)) := by
          show World.ownsRow _ _ _ _ _ _ _
          rw [show zEs (i + 1) = zEs i ++ [zE i] from HE1.out, List.flatMap_append]
          exact T1.out
        clear S1 S2 hs7 B7 B5 P1 P2 T1
        go_wp2_with (first
          | (go_at_call 79; (with_reducible refine Calls.mono (HPP.out _) ?_); rintro e10 w10 ⟨rfl, hb10⟩; have B10 := Lib.hid (btr B9.out hb10); have S1 := Lib.hid (own_below U1.out hb10); have S2 := Lib.hid (own_below T2.out hb10); have hs10 := B10.out.size; clear hb10)
          | (at_builtin; refine wpList_append_lies _ rfl _ _ _ rfl w.heap.size 85 i2 _ 9 88 Tryd.underlying72 hi2 hz20 hz21 hz22 rfl (by omega) (.slice pa i pc) i ((zPs i).flatMap plcC) rfl (World.ownsRow.alloc S2.out _) ⟨w10.heap.size, 0, none⟩ 1 1 #[.string (⟨#[99]⟩ ++ lbS i), .string (pnS (lbS i)), .int .i64 0, .int .i64 10, .int .i64 0, .int .i64 5, .int .i64 0, .int .i64 1000000, .bool false].toList rfl rfl (World.news_of_block (cs := #[.string (⟨#[99]⟩ ++ lbS i), .string (pnS (lbS i)), .int .i64 0, .int .i64 10, .int .i64 0, .int .i64 5, .int .i64 0, .int .i64 1000000, .bool false]) (t := 85) (fr := (0, 0)) (heap_alloc_at w10 _)) (by simp [Value.oneCell']) (by omega) (by unfold maxLen; omega) (by omega) (by simp; omega) (w10.heap.size + 1) (by simp) ?_; intro g11 cap11 w11 hown11 hgrow11 hat11 hlt11; have B11 : Hid (Below w.heap.size w w11) := grown_belB B10.out (Nat.le_refl _) S2.out hgrow11; have T3 := Lib.hid hown11; have T4 : Hid (w11.ownsRow w.heap.size 91 4 (.slice (some ⟨g9, 0, none⟩) (i + 1) cap9) (i + 1) ((zEs (i + 1)).flatMap edgC)) := own_other (by decide) S2.out S1.out hgrow11; clear hown11 hgrow11 hat11 hlt11))
        have U3 : Hid (w11.ownsRow w.heap.size 85 9 (.slice (some ⟨g11, 0, none⟩) (i + 1) cap11) (i + 1) ((zPs (i + 1)).flatMap plcC)) := by
          show World.ownsRow _ _ _ _ _ _ _
          rw [show zPs (i + 1) = zPs i ++ [zP i] from HP1.out, List.flatMap_append]
          exact T3.out
        go_roundw
        case rel => exact ⟨i + 1, HLT.out, by go_num, T4.out, U3.out, B11.out⟩
        case measure => have := HLT.out; simp only [intOf]; omega
    · obtain rfl : i = 21 := by omega
      obtain ⟨o1, c1, e1, r1⟩ := own_rows edgC_len hO1.out (by rfl)
      obtain ⟨o2, c2, e2, r2⟩ := own_rows plcC_len hO2.out (by rfl)
      cases e1
      cases e2
      have R1 := Lib.hid (r1.below (below_new' wr (.cells #[.string ⟨#[80, 110, 49, 48, 49, 59]⟩, .string ⟨#[80, 110, 49, 50, 49, 59]⟩, .int .i64 500, .int .i64 40, .int .i64 100000, .int .i64 100000, .slice none 0 0] 77)))
      have R2 := Lib.hid (r2.below (below_new' wr (.cells #[.string ⟨#[80, 110, 49, 48, 49, 59]⟩, .string ⟨#[80, 110, 49, 50, 49, 59]⟩, .int .i64 500, .int .i64 40, .int .i64 100000, .int .i64 100000, .slice none 0 0] 77)))
      have B5 := Lib.hid (btr hB.out (below_new' wr (.cells #[.string ⟨#[80, 110, 49, 48, 49, 59]⟩, .string ⟨#[80, 110, 49, 50, 49, 59]⟩, .int .i64 500, .int .i64 40, .int .i64 100000, .int .i64 100000, .slice none 0 0] 77)))
      have K5 : Hid ((wr.alloc (.cells #[.string ⟨#[80, 110, 49, 48, 49, 59]⟩, .string ⟨#[80, 110, 49, 50, 49, 59]⟩, .int .i64 500, .int .i64 40, .int .i64 100000, .int .i64 100000, .slice none 0 0] 77)).heap[wr.heap.size]? = some (.cells #[.string ⟨#[80, 110, 49, 48, 49, 59]⟩, .string ⟨#[80, 110, 49, 50, 49, 59]⟩, .int .i64 500, .int .i64 40, .int .i64 100000, .int .i64 100000, .slice none 0 0] 77 (0, 0))) := heap_alloc_at _ _
      have hsw := hB.out.size
      have HL1 := Lib.hid (rows_lt (by omega) edgC_len r1)
      have HL2 := Lib.hid (rows_lt (by omega) plcC_len r2)
      clear hi hlt hO1 hO2 hB r1 r2 HE HP hi1 hz10 hz11 hz12 hi2 hz20 hz21 hz22
      rw [show ((21 : Nat) : Int) = 21 from rfl]
      go_upto_region 10 with fail
      generalize (wr.alloc (.cells #[.string ⟨#[80, 110, 49, 48, 49, 59]⟩, .string ⟨#[80, 110, 49, 50, 49, 59]⟩, .int .i64 500, .int .i64 40, .int .i64 100000, .int .i64 100000, .slice none 0 0] 77)) = w5 at R1 R2 B5 K5 ⊢
      generalize wr.heap.size = ab at K5 hsw HL1 HL2 ⊢
      obtain ⟨a0, a1, a2, a3, a4, a5, a6⟩ := ask_cells K5.out
      have al := lt_of_heap K5.out
      have HF1 : Hid (Calls Tryd.prog 39 #[.slice ea 21 ec, .slice pa 21 pc, .agg #[.string ⟨#[80, 110, 49, 48, 49, 59]⟩, .string ⟨#[80, 110, 49, 50, 49, 59]⟩, .int .i64 500, .int .i64 40, .int .i64 100000, .int .i64 100000, .slice none 0 0]] w5 (FindPost (findN isKey (zEs 21) (zPs 21) (zAsk zF1)) w5)) := find_any ea (zEs 21) ec pa (zPs 21) pc (zAsk zF1) none 0 w5 (by decide) (by decide) (HL.out.below B5.out) R1.out R2.out (.inl rfl)
      have hz := find_z1
      have hz2 := find_z2
      have hz3 := find_z3
      generalize findN isKey (zEs 21) (zPs 21) (zAsk zF1) = fz at HF1 hz hz2 hz3
      obtain ⟨zl, zc⟩ := fz
      dsimp only at hz hz2 hz3
      simp only [Prod.mk.injEq, true_and] at hz
      subst hz
      unfold FindPost at HF1
      dsimp only at HF1
      have HZ3 := Lib.hid hz3
      rw [hz2] at HF1
      have HZ2 := Lib.hid hz2
      clear hz2 hz3
      go_upto_region 11 with (go_at_call 39; (with_reducible refine Calls.mono HF1.out ?_); rintro e6 w6 ⟨hb6, v6, rfl, hown6⟩; obtain ⟨lo, lc, rfl⟩ := own_slice hown6; have B6 := Lib.hid hb6; obtain ⟨o', c', e', h'⟩ := own_rows hpC_len hown6 HZ2.out; cases e'; have R6 := Lib.hid h'; have N6 := Lib.hid (own_new hown6 (by omega)); clear hb6 hown6 h')
      clear a0 a1 a2 a3 a4 a5 a6 al HF1
      have k6 := (B6.out.block _ (lt_of_heap K5.out)).trans K5.out
      have abl := lt_of_heap k6
      have ab5 := lt_of_heap K5.out
      have f0 : w6.frozen? ⟨ab, 0, none⟩ = false := by simp [World.frozen?, k6]
      have S1 : Hid ((w6.setCell ⟨ab, 0, none⟩ (.string ⟨#[80, 110, 49, 48, 48, 59]⟩)).heap[ab]? = some (.cells #[.string ⟨#[80, 110, 49, 48, 48, 59]⟩, .string ⟨#[80, 110, 49, 50, 49, 59]⟩, .int .i64 500, .int .i64 40, .int .i64 100000, .int .i64 100000, .slice none 0 0] 77 (0, 0))) := by show _ = _; rw [heap_setCell_same _ _ _ _ _ _ k6]; rfl
      have SF : Hid (Fr (fun i => i = ab) w6 (w6.setCell ⟨ab, 0, none⟩ (.string ⟨#[80, 110, 49, 48, 48, 59]⟩))) := (Fr.refl _ w6).set ab 0 _ rfl
      have SB : Hid (Below w.heap.size w (w6.setCell ⟨ab, 0, none⟩ (.string ⟨#[80, 110, 49, 48, 48, 59]⟩))) := Below.setCell (btr B5.out B6.out) hsw _
      have RR1 : Hid (RowsAt 4 edgC ea (zEs 21) (w6.setCell ⟨ab, 0, none⟩ (.string ⟨#[80, 110, 49, 48, 48, 59]⟩))) := rows_fr (R1.out.below B6.out) (fun b off e hl => by have := HL1.out b off e hl; omega) SF.out
      have RR2 : Hid (RowsAt 9 plcC pa (zPs 21) (w6.setCell ⟨ab, 0, none⟩ (.string ⟨#[80, 110, 49, 48, 48, 59]⟩))) := rows_fr (R2.out.below B6.out) (fun b off e hl => by have := HL2.out b off e hl; omega) SF.out
      have RR6 : Hid (RowsAt 4 hpC lo zl (w6.setCell ⟨ab, 0, none⟩ (.string ⟨#[80, 110, 49, 48, 48, 59]⟩))) := rows_fr R6.out (fun b off e hl => by obtain ⟨b', e', h'⟩ := N6.out; rw [e] at e'; cases e'; omega) SF.out
      obtain ⟨a0, a1, a2, a3, a4, a5, a6⟩ := ask_cells k6
      go_upto_region 12 with fail
      clear f0 abl k6 a0 a1 a2 a3 a4 a5 a6
      generalize (w6.setCell ⟨ab, 0, none⟩ (.string ⟨#[80, 110, 49, 48, 48, 59]⟩)) = w7 at S1 SB RR1 RR2 RR6 ⊢
      obtain ⟨a0, a1, a2, a3, a4, a5, a6⟩ := ask_cells S1.out
      have al := lt_of_heap S1.out
      have HF2 : Hid (Calls Tryd.prog 39 #[.slice ea 21 ec, .slice pa 21 pc, .agg #[.string ⟨#[80, 110, 49, 48, 48, 59]⟩, .string ⟨#[80, 110, 49, 50, 49, 59]⟩, .int .i64 500, .int .i64 40, .int .i64 100000, .int .i64 100000, .slice none 0 0]] w7 (FindPost (findN isKey (zEs 21) (zPs 21) (zAsk zF0)) w7)) := find_any ea (zEs 21) ec pa (zPs 21) pc (zAsk zF0) none 0 w7 (by decide) (by decide) (HL.out.below SB.out) RR1.out RR2.out (.inl rfl)
      rw [find_z4] at HF2
      obtain ⟨h0, hh0⟩ : ∃ h, zl[0]? = some h := ⟨_, List.getElem?_eq_getElem (by rw [HZ2.out]; omega)⟩
      have hz3 := HZ3.out
      rw [hh0] at hz3
      obtain ⟨hc0, hn0, ha0, he0⟩ := h0
      simp only [Option.map_some, Option.some.injEq, Prod.mk.injEq] at hz3
      obtain ⟨rfl, rfl⟩ := hz3
      obtain ⟨lb, lo', rfl, hlc⟩ := rows_at RR6.out hh0
      have HC2 : Hid (w7.cell? ⟨lb, lo' + 2, none⟩ = some (.int .i64 690)) := by have := hlc 2 _ rfl; show _ = _; simpa using this
      have HC3 : Hid (w7.cell? ⟨lb, lo' + 3, none⟩ = some (.int .i64 135)) := by have := hlc 3 _ rfl; show _ = _; simpa using this
      clear hlc hh0
      go_wp2_with (go_at_call 39; (with_reducible refine Calls.mono HF2.out ?_); rintro e8 w8 ⟨hb8, v8, rfl, hown8⟩; obtain ⟨lo8, lc8, rfl⟩ := own_slice hown8; have B8 := Lib.hid (btr SB.out hb8); have z2 := cell_later' hb8 HC2.out; have z3 := cell_later' hb8 HC3.out; clear hb8 hown8)
      go_ret
      exact ⟨rfl, B8.out⟩

end Go.Proofs.YtbdimlppnhcicaaDoor
namespace Go.Proofs.YtbdimlppnhcicaaDoor
set_option linter.unusedVariables false
open Go.RowKit Rte
/-! route: slices that are made -/
def edgZ : Edg := ⟨⟨#[]⟩, ⟨#[]⟩, ⟨#[]⟩, 0⟩
theorem made_get (z : Array Value) (N q : Nat) (h : q < N) : (madeCells z N)[q]? = some (z[q % z.size]!) := by
  unfold madeCells
  rw [Array.getElem?_map, Array.getElem?_range, if_pos h]
  rfl
theorem rows_made {α : Type} (cells : α → List Value) {n : Nat} (x0 : α) (hn : 0 < n) (hcl : (cells x0).length = n) (z : Array Value) (hz : z = (cells x0).toArray) (m : Nat) {W : World} {k : Nat} {t : TypeId} (h : W.heap[k]? = some (.cells (madeCells z (m * n)) t (0, 0))) : RowsAt n cells (some ⟨k, 0, none⟩) (List.replicate m x0) W := by
  refine .inr ⟨k, 0, rfl, fun i x hx j v hv => ?_⟩
  rw [List.getElem?_replicate] at hx
  split at hx
  · rename_i him
    cases hx
    have hj : j < n := by rw [← hcl]; exact (List.getElem?_eq_some_iff.1 hv).1
    have hs : z.size = n := by rw [hz]; simpa using hcl
    rw [cell_of_row _ _ _ _ _ _ h]
    have hq : 0 + i * n + j < m * n := by
      have : (i + 1) * n ≤ m * n := Nat.mul_le_mul_right n him
      rw [Nat.add_mul] at this
      omega
    rw [made_get _ _ _ hq, hs]
    have hm : (0 + i * n + j) % n = j := by rw [Nat.zero_add, Nat.mul_comm, Nat.mul_add_mod, Nat.mod_eq_of_lt hj]
    rw [hm]
    have hzj : z[j]? = some v := by rw [hz]; simpa using hv
    rw [getElem!_def, hzj]
  · cases hx
theorem strs_made (m : Nat) {W : World} {k : Nat} {t : TypeId} (h : W.heap[k]? = some (.cells (madeCells #[.string ⟨#[]⟩] (m * 1)) t (0, 0))) : StrsAt (some ⟨k, 0, none⟩) (List.replicate m (⟨#[]⟩ : ByteArray)) W := by
  have hr := rows_made (n := 1) (fun s : ByteArray => [Value.string s]) (⟨#[]⟩ : ByteArray) (by omega) rfl #[.string ⟨#[]⟩] rfl m h
  rcases hr with hr | ⟨b, off, e, hc⟩
  · exact .inl hr
  · exact .inr ⟨b, off, e, fun k x hx => by have := hc k x hx 0 _ rfl; simpa using this⟩
theorem Tryd.info9s : (Tryd.prog.info? 9).map (fun i => (i.zero, i.size, i.bytes)) = some (some (.string ⟨#[]⟩), 1, 16) := by kernel_rfl
theorem make_e (W : World) : (Instr.makeSlice 71 (.int .i64 257) (.int .i64 257)).run Tryd.prog W = .ok (.slice (some ⟨W.heap.size, 0, none⟩) 257 257) (W.alloc (.cells (madeCells #[.string ⟨#[]⟩, .string ⟨#[]⟩, .string ⟨#[]⟩, .int .i64 0] (257 * 4)) 91)) := by
  obtain ⟨i, hi, hz, hs, hb⟩ := info_parts Tryd.info91
  have h := run_make (P := Tryd.prog) W 71 91 i _ Tryd.underlying71 hi hz .i64 .i64 257 257 (by omega) (by omega) (by rw [hb]; omega) (by omega)
  rw [hs] at h
  exact h
theorem make_p (W : World) : (Instr.makeSlice 72 (.int .i64 513) (.int .i64 513)).run Tryd.prog W = .ok (.slice (some ⟨W.heap.size, 0, none⟩) 513 513) (W.alloc (.cells (madeCells #[.string ⟨#[]⟩, .string ⟨#[]⟩, .int .i64 0, .int .i64 0, .int .i64 0, .int .i64 0, .int .i64 0, .int .i64 0, .bool false] (513 * 9)) 85)) := by
  obtain ⟨i, hi, hz, hs, hb⟩ := info_parts Tryd.info85
  have h := run_make (P := Tryd.prog) W 72 85 i _ Tryd.underlying72 hi hz .i64 .i64 513 513 (by omega) (by omega) (by rw [hb]; omega) (by omega)
  rw [hs] at h
  exact h
theorem make_s (W : World) : (Instr.makeSlice 75 (.int .i64 257) (.int .i64 257)).run Tryd.prog W = .ok (.slice (some ⟨W.heap.size, 0, none⟩) 257 257) (W.alloc (.cells (madeCells #[.string ⟨#[]⟩] (257 * 1)) 9)) := by
  obtain ⟨i, hi, hz, hs, hb⟩ := info_parts Tryd.info9s
  have h := run_make (P := Tryd.prog) W 75 9 i _ Tryd.underlying75 hi hz .i64 .i64 257 257 (by omega) (by omega) (by rw [hb]; omega) (by omega)
  rw [hs] at h
  exact h
end Go.Proofs.YtbdimlppnhcicaaDoor
namespace Go.Proofs.YtbdimlppnhcicaaDoor
set_option linter.unusedVariables false
open Go.RowKit Rte
/-! route: RouteKnown -/
/-- what is known while the examples are gone through -/
structure Kn (w : World) (eb pb ab bb : Nat) (P : List Plc) (A : Array Value) (W : World) : Prop where
  bel : Below w.heap.size w W
  e : W.heap[eb]? = some (.cells (xEdges.flatMap edgC).toArray 91 (0, 0))
  p : W.heap[pb]? = some (.cells (P.flatMap plcC).toArray 85 (0, 0))
  a : W.heap[ab]? = some (.cells A 77 (0, 0))
  b : W.heap[bb]? = some (.cells #[.string ⟨#[97, 99]⟩] 9 (0, 0))
  gp : w.heap.size ≤ pb
  ga : w.heap.size ≤ ab
theorem Kn.next {w : World} {eb pb ab bb : Nat} {P : List Plc} {A : Array Value} {W W' : World} (h : Kn w eb pb ab bb P A W) (hb : Below W.heap.size W W') : Kn w eb pb ab bb P A W' :=
  ⟨btr h.bel hb, (hb.block _ (lt_of_heap h.e)).trans h.e, (hb.block _ (lt_of_heap h.p)).trans h.p, (hb.block _ (lt_of_heap h.a)).trans h.a, (hb.block _ (lt_of_heap h.b)).trans h.b, h.gp, h.ga⟩
theorem ne_of_type {W : World} {i j : Nat} {c d : Array Value} {s t : TypeId} (hi : W.heap[i]? = some (.cells c s (0, 0))) (hj : W.heap[j]? = some (.cells d t (0, 0))) (h : s ≠ t) : i ≠ j := by
  rintro rfl
  rw [hi] at hj
  cases hj
  exact h rfl
theorem Kn.setA {w : World} {eb pb ab bb : Nat} {P : List Plc} {A A' : Array Value} {W : World} (h : Kn w eb pb ab bb P A W) (j : Nat) (v : Value) (hA : A.setIfInBounds j v = A') : Kn w eb pb ab bb P A' (W.setCell ⟨ab, j, none⟩ v) := by
  have hF : Fr (fun i => i = ab) W (W.setCell ⟨ab, j, none⟩ v) := (Fr.refl _ W).set ab j v rfl
  refine ⟨Below.setCell h.bel h.ga _, (hF.block _ (lt_of_heap h.e) (ne_of_type h.e h.a (by decide))).trans h.e, (hF.block _ (lt_of_heap h.p) (ne_of_type h.p h.a (by decide))).trans h.p, ?_, (hF.block _ (lt_of_heap h.b) (ne_of_type h.b h.a (by decide))).trans h.b, h.gp, h.ga⟩
  rw [heap_setCell_same _ _ _ _ _ _ h.a]
  exact congrArg (fun c => some (Obj.cells c 77 (0, 0))) hA
theorem Kn.rowA {w : World} {eb pb ab bb : Nat} {P : List Plc} {A : Array Value} {W : World} (h : Kn w eb pb ab bb P A W) (A' : Array Value) : Kn w eb pb ab bb P A' (W.setRow ab A') := by
  have hF : Fr (fun i => i = ab) W (W.setRow ab A') := (Fr.refl _ W).setR ab A' (fun _ => rfl)
  exact ⟨below_setRow h.bel h.ga _, (hF.block _ (lt_of_heap h.e) (ne_of_type h.e h.a (by decide))).trans h.e, (hF.block _ (lt_of_heap h.p) (ne_of_type h.p h.a (by decide))).trans h.p, setRow_heap W ab _ _ 77 _ h.a, (hF.block _ (lt_of_heap h.b) (ne_of_type h.b h.a (by decide))).trans h.b, h.gp, h.ga⟩
theorem Kn.setP {w : World} {eb pb ab bb : Nat} {P P' : List Plc} {A : Array Value} {W : World} (h : Kn w eb pb ab bb P A W) (j : Nat) (v : Value) (hP : (P.flatMap plcC).toArray.setIfInBounds j v = (P'.flatMap plcC).toArray) : Kn w eb pb ab bb P' A (W.setCell ⟨pb, j, none⟩ v) := by
  have hF : Fr (fun i => i = pb) W (W.setCell ⟨pb, j, none⟩ v) := (Fr.refl _ W).set pb j v rfl
  refine ⟨Below.setCell h.bel h.gp _, (hF.block _ (lt_of_heap h.e) (ne_of_type h.e h.p (by decide))).trans h.e, ?_, (hF.block _ (lt_of_heap h.a) (ne_of_type h.a h.p (by decide))).trans h.a, (hF.block _ (lt_of_heap h.b) (ne_of_type h.b h.p (by decide))).trans h.b, h.gp, h.ga⟩
  rw [heap_setCell_same _ _ _ _ _ _ h.p]
  exact congrArg (fun c => some (Obj.cells c 85 (0, 0))) hP
theorem kn_find {w : World} {eb pb ab bb : Nat} {Q : List Plc} {B : Array Value} {W W0 : World} (hW : Kn w eb pb ab bb Q B W0) (hb : Below W0.heap.size W0 W) (hL : LibOk W) (oe : Option Addr) (E : List Edg) (ce : Nat) (op : Option Addr) (P : List Plc) (cp : Nat) (A : AskR) (ob : Option Addr) (cb : Nat) (hs1 : A.frm.size ≤ maxLen) (hs2 : A.dst.size ≤ maxLen)
    (hE : RowsAt 4 edgC oe E W) (hP : RowsAt 9 plcC op P W) (hB : StrsAt ob A.bad W) {l : List Hp} {c : Int} {n : Nat} (hf : findN isKey E P A = (l, c)) (hn : l.length = n) :
    Calls Tryd.prog 39 #[.slice oe E.length ce, .slice op P.length cp, askV A ob cb] W fun e w' => ∃ lo lc, e = .returned (.tuple #[.slice lo n lc, .int .i64 c]) ∧ RowsAt 4 hpC lo l w' ∧ Kn w eb pb ab bb Q B w' ∧ Below W.heap.size W w' := by
  have h := find_any oe E ce op P cp A ob cb W hs1 hs2 hL hE hP hB
  rw [hf] at h
  refine h.mono fun e w' q => ?_
  obtain ⟨q0, v, q1, q2⟩ := q
  obtain ⟨lo, lc, rfl, hr⟩ := own_rows hpC_len q2 rfl
  exact ⟨lo, lc, by rw [q1]; subst hn; rfl, hr, (hW.next hb).next q0, q0⟩
theorem net_r4 (w : World) : Calls Tryd.prog 42 #[] w fun e w' => ∃ k m, e = .returned (.tuple #[.slice (some ⟨k, 0, none⟩) 4 4, .slice (some ⟨m, 0, none⟩) 3 3]) ∧ w.heap.size ≤ m ∧ w'.heap[k]? = some (.cells (xEdges.flatMap edgC).toArray 91 (0, 0)) ∧ w'.heap[m]? = some (.cells (xPols.flatMap plcC).toArray 85 (0, 0)) ∧ Below w.heap.size w w' :=
  (net_r w).mono fun e w' ⟨k, m, h1, _, h3, h4, h5, h6⟩ => ⟨k, m, h1, h3, h4, h5, h6⟩
theorem ask_r4 (w : World) : Calls Tryd.prog 43 #[] w fun e w' => e = .returned (.agg #[.string ⟨#[80, 110, 49, 59]⟩, .string ⟨#[80, 110, 52, 59]⟩, .int .i64 500, .int .i64 40, .int .i64 1000, .int .i64 100, .slice none 0 0]) ∧ Below w.heap.size w w' := ask_r w
def yPol (off : Bool) (mn mx : Int) : List Plc := [xPol ⟨#[98, 99]⟩ ⟨#[50]⟩, ⟨⟨#[99, 100]⟩, pnS ⟨#[51]⟩, 0, 10, 0, 5, mn, mx, off⟩, xPol ⟨#[97, 99]⟩ ⟨#[51]⟩]
def yHops : List Hp := [⟨⟨#[97, 98]⟩, ⟨#[80, 110, 50, 59]⟩, 520, 50⟩, ⟨⟨#[98, 99]⟩, ⟨#[80, 110, 51, 59]⟩, 510, 45⟩, ⟨⟨#[99, 100]⟩, ⟨#[80, 110, 52, 59]⟩, 500, 40⟩]
theorem bad_at {w : World} {eb pb ab bb : Nat} {P : List Plc} {A : Array Value} {W : World} (h : Kn w eb pb ab bb P A W) : StrsAt (some ⟨bb, 0, none⟩) [⟨#[97, 99]⟩] W := by
  refine .inr ⟨bb, 0, rfl, fun k s hk => ?_⟩
  cases k with
  | zero => cases hk; rw [cell_of_row _ _ _ _ _ _ h.b]; rfl
  | succ k => simp at hk
theorem keep7 {w W : World} {c : Nat} {v0 v1 v2 v3 v4 v5 v6 : Value} (hb : Below w.heap.size w W) (h : w.cell? ⟨c, 0, none⟩ = some v0 ∧ w.cell? ⟨c, 1, none⟩ = some v1 ∧ w.cell? ⟨c, 2, none⟩ = some v2 ∧ w.cell? ⟨c, 3, none⟩ = some v3 ∧ w.cell? ⟨c, 4, none⟩ = some v4 ∧ w.cell? ⟨c, 5, none⟩ = some v5 ∧ w.cell? ⟨c, 6, none⟩ = some v6) :
    Below w.heap.size w W ∧ W.cell? ⟨c, 0, none⟩ = some v0 ∧ W.cell? ⟨c, 1, none⟩ = some v1 ∧ W.cell? ⟨c, 2, none⟩ = some v2 ∧ W.cell? ⟨c, 3, none⟩ = some v3 ∧ W.cell? ⟨c, 4, none⟩ = some v4 ∧ W.cell? ⟨c, 5, none⟩ = some v5 ∧ W.cell? ⟨c, 6, none⟩ = some v6 :=
  ⟨hb, cell_later hb h.1, cell_later hb h.2.1, cell_later hb h.2.2.1, cell_later hb h.2.2.2.1, cell_later hb h.2.2.2.2.1, cell_later hb h.2.2.2.2.2.1, cell_later hb h.2.2.2.2.2.2⟩
theorem kf1 : findN isKey xEdges (yPol false 0 1000000) ⟨⟨#[80, 110, 49, 59]⟩, ⟨#[80, 110, 52, 59]⟩, 500, 40, 1000, 100, [⟨#[97, 99]⟩]⟩ = (yHops, 0) := by kernel_rfl
theorem kf3 : findN isKey xEdges (yPol false 0 1000000) ⟨⟨#[80, 110, 49, 59]⟩, ⟨#[80, 110, 52, 59]⟩, 500, 40, 1000, 20, [⟨#[97, 99]⟩]⟩ = ((findN isKey xEdges (yPol false 0 1000000) ⟨⟨#[80, 110, 49, 59]⟩, ⟨#[80, 110, 52, 59]⟩, 500, 40, 1000, 20, [⟨#[97, 99]⟩]⟩).1, 0) := by kernel_rfl
theorem kg3 : (findN isKey xEdges (yPol false 0 1000000) ⟨⟨#[80, 110, 49, 59]⟩, ⟨#[80, 110, 52, 59]⟩, 500, 40, 1000, 20, [⟨#[97, 99]⟩]⟩).1.length = 3 := by kernel_rfl
theorem kf5 : findN isKey xEdges (yPol false 0 1000000) ⟨⟨#[80, 110, 49, 59]⟩, ⟨#[80, 110, 52, 59]⟩, 500, 40, 1000, 19, [⟨#[97, 99]⟩]⟩ = ([], 260) := by kernel_rfl
theorem kf8 : findN isKey xEdges (yPol false 0 1000000) ⟨⟨#[80, 110, 49, 59]⟩, ⟨#[80, 110, 52, 59]⟩, 500, 40, 49, 100, [⟨#[97, 99]⟩]⟩ = ([], 260) := by kernel_rfl
theorem kf11 : findN isKey xEdges (yPol true 0 1000000) ⟨⟨#[80, 110, 49, 59]⟩, ⟨#[80, 110, 52, 59]⟩, 500, 40, 1000, 100, []⟩ = ([], 260) := by kernel_rfl
theorem kf14 : findN isKey xEdges (yPol false 501 1000000) ⟨⟨#[80, 110, 49, 59]⟩, ⟨#[80, 110, 52, 59]⟩, 500, 40, 1000, 100, []⟩ = ([], 260) := by kernel_rfl
theorem kf17 : findN isKey xEdges (yPol false 0 499) ⟨⟨#[80, 110, 49, 59]⟩, ⟨#[80, 110, 52, 59]⟩, 500, 40, 1000, 100, []⟩ = ([], 260) := by kernel_rfl
theorem kf19 : findN isKey xEdges (yPol false 0 500) ⟨⟨#[80, 110, 49, 59]⟩, ⟨#[80, 110, 52, 59]⟩, 500, 40, 1000, 100, []⟩ = ((findN isKey xEdges (yPol false 0 500) ⟨⟨#[80, 110, 49, 59]⟩, ⟨#[80, 110, 52, 59]⟩, 500, 40, 1000, 100, []⟩).1, 0) := by kernel_rfl
theorem kg19 : (findN isKey xEdges (yPol false 0 500) ⟨⟨#[80, 110, 49, 59]⟩, ⟨#[80, 110, 52, 59]⟩, 500, 40, 1000, 100, []⟩).1.length = 2 := by kernel_rfl
theorem kf21 : findN isKey xEdges (yPol false 0 500) ⟨⟨#[80, 110, 49, 59]⟩, ⟨#[80, 110, 49, 59]⟩, 500, 40, 1000, 100, []⟩ = ([], 2) := by kernel_rfl
theorem kf24 : findN isKey xEdges (yPol false 0 500) ⟨⟨#[80, 110, 49, 59]⟩, ⟨#[80, 110, 52, 59]⟩, 0, 40, 1000, 100, []⟩ = ([], 40) := by kernel_rfl
theorem kf27 : findN isKey xEdges (yPol false 0 500) ⟨⟨#[80, 110, 49, 59]⟩, ⟨#[80, 110, 52, 59]⟩, 500, 40, 1000, (-1), []⟩ = ([], 40) := by kernel_rfl
theorem kf30 : findN isKey xEdges (yPol false 0 500) ⟨⟨#[110, 49, 59]⟩, ⟨#[80, 110, 52, 59]⟩, 500, 40, 1000, 100, []⟩ = ([], 2) := by kernel_rfl
theorem kf33 : findN isKey xEdges (yPol false 0 500) ⟨⟨#[80, 110, 49, 59]⟩, ⟨#[80, 110, 52, 59]⟩, 500, 40, 2147483648, 100, []⟩ = ([], 2) := by kernel_rfl
theorem kf35 : findN isKey (List.replicate 257 edgZ) (yPol false 0 500) ⟨⟨#[80, 110, 49, 59]⟩, ⟨#[80, 110, 52, 59]⟩, 500, 40, 1000, 100, []⟩ = ([], 3) := by kernel_rfl
theorem kf36 : findN isKey xEdges (List.replicate 513 plcZ) ⟨⟨#[80, 110, 49, 59]⟩, ⟨#[80, 110, 52, 59]⟩, 500, 40, 1000, 100, []⟩ = ([], 3) := by kernel_rfl
theorem kf37 : findN isKey xEdges [⟨⟨#[]⟩, ⟨#[]⟩, 0, -1, 0, 0, 0, 0, false⟩] ⟨⟨#[80, 110, 49, 59]⟩, ⟨#[80, 110, 52, 59]⟩, 500, 40, 1000, 100, []⟩ = ([], 2) := by kernel_rfl
theorem kf38 : findN isKey [⟨⟨#[]⟩, ⟨#[]⟩, ⟨#[]⟩, 2100000000000001⟩] (yPol false 0 500) ⟨⟨#[80, 110, 49, 59]⟩, ⟨#[80, 110, 52, 59]⟩, 500, 40, 1000, 100, []⟩ = ([], 2) := by kernel_rfl
theorem kc : checkN isKey xEdges (yPol false 0 500) ⟨⟨#[80, 110, 49, 59]⟩, ⟨#[80, 110, 52, 59]⟩, 500, 40, 1000, 100, (List.replicate 257 (⟨#[]⟩ : ByteArray))⟩ [] = (false, 3) := by kernel_rfl
theorem fee1 (W : World) : Calls Tryd.prog 45 #[.agg #[.string ⟨#[]⟩, .string ⟨#[]⟩, .int .i64 0, .int .i64 1000, .int .i64 100, .int .i64 0, .int .i64 0, .int .i64 0, .bool false], .int .i64 1000000] W fun e w' => e = .returned (.tuple #[.int .i64 1100, .int .i64 0]) ∧ Below W.heap.size W w' := (rfee_any ⟨⟨#[]⟩, ⟨#[]⟩, 0, 1000, 100, 0, 0, 0, false⟩ 1000000 W).mono fun e w' q => Mny.opt_some q (by kernel_rfl)
theorem fee2 (W : World) : Calls Tryd.prog 45 #[.agg #[.string ⟨#[]⟩, .string ⟨#[]⟩, .int .i64 0, .int .i64 (-1), .int .i64 0, .int .i64 0, .int .i64 0, .int .i64 0, .bool false], .int .i64 5] W fun e w' => e = .returned (.tuple #[.int .i64 0, .int .i64 40]) ∧ Below W.heap.size W w' := (rfee_any ⟨⟨#[]⟩, ⟨#[]⟩, 0, -1, 0, 0, 0, 0, false⟩ 5 W).mono fun e w' q => Mny.opt_none q (by kernel_rfl)
set_option maxRecDepth 100000 in
set_option maxHeartbeats 32000000 in
theorem known_r (w : World) (hL : LibOk w) : Calls Tryd.prog 10 #[] w fun e w' => e = .returned (.bool true) ∧ Below w.heap.size w w' := by
  have HL := Lib.hid hL
  clear hL
  go_enter Tryd.func10, Tryd.ntmps10
  go_upto_region 2 with (go_at_call 42; (with_reducible refine Calls.mono (net_r4 _) ?_); rintro e1 w1 ⟨eb, pb, rfl, hpb, hke, hkp, hb⟩; have B1 := Lib.hid hb; have E1 := Lib.hid hke; have P1 := Lib.hid hkp; have G1 := Lib.hid hpb; clear hb hke hkp hpb)
  go_upto_region 3 with (go_at_call 43; (with_reducible refine Calls.mono (ask_r4 _) ?_); rintro e2 w2 ⟨rfl, hb⟩; have B2 := Lib.hid (btr B1.out hb); have E2 := Lib.hid ((hb.block _ (lt_of_heap E1.out)).trans E1.out); have P2 := Lib.hid ((hb.block _ (lt_of_heap P1.out)).trans P1.out); clear hb)
  have hb3 := below_new' w2 (.cells #[.string ⟨#[80, 110, 49, 59]⟩, .string ⟨#[80, 110, 52, 59]⟩, .int .i64 500, .int .i64 40, .int .i64 1000, .int .i64 100, .slice none 0 0] 77)
  have B3 := Lib.hid (btr B2.out hb3)
  have E3 := Lib.hid ((hb3.block _ (lt_of_heap E2.out)).trans E2.out)
  have P3 := Lib.hid ((hb3.block _ (lt_of_heap P2.out)).trans P2.out)
  have A3 : Hid ((w2.alloc (.cells #[.string ⟨#[80, 110, 49, 59]⟩, .string ⟨#[80, 110, 52, 59]⟩, .int .i64 500, .int .i64 40, .int .i64 1000, .int .i64 100, .slice none 0 0] 77)).heap[w2.heap.size]? = some (.cells #[.string ⟨#[80, 110, 49, 59]⟩, .string ⟨#[80, 110, 52, 59]⟩, .int .i64 500, .int .i64 40, .int .i64 1000, .int .i64 100, .slice none 0 0] 77 (0, 0))) := heap_alloc_at _ _
  have G2 := Lib.hid B2.out.size
  clear hb3
  generalize (w2.alloc (.cells #[.string ⟨#[80, 110, 49, 59]⟩, .string ⟨#[80, 110, 52, 59]⟩, .int .i64 500, .int .i64 40, .int .i64 1000, .int .i64 100, .slice none 0 0] 77)) = w3 at B3 E3 P3 A3 ⊢
  generalize w2.heap.size = ab at A3 G2 ⊢
  obtain ⟨a0, a1, a2, a3, a4, a5, a6⟩ := ask_cells A3.out
  have fz : (w3.alloc (.cells #[.string ⟨#[97, 99]⟩] 9)).frozen? ⟨ab, 6, none⟩ = false := by
    have hx := ((below_new' w3 (.cells #[.string ⟨#[97, 99]⟩] 9)).block _ (lt_of_heap A3.out)).trans A3.out
    simp only [World.frozen?, hx]; rfl
  have al := lt_of_heap A3.out
  go_upto_region 4 with fail
  clear a0 a1 a2 a3 a4 a5 a6 fz al
  have hF : Fr (fun i => i = ab) w3 (w3.setCell ⟨ab, 6, none⟩ (.slice (some ⟨w3.heap.size, 0, none⟩) 1 1)) := (Fr.refl _ w3).set ab 6 _ rfl
  have e3 := (hF.block _ (lt_of_heap E3.out) (ne_of_type E3.out A3.out (by decide))).trans E3.out
  have p3 := (hF.block _ (lt_of_heap P3.out) (ne_of_type P3.out A3.out (by decide))).trans P3.out
  have a3 : (w3.setCell ⟨ab, 6, none⟩ (.slice (some ⟨w3.heap.size, 0, none⟩) 1 1)).heap[ab]? = some (.cells #[.string ⟨#[80, 110, 49, 59]⟩, .string ⟨#[80, 110, 52, 59]⟩, .int .i64 500, .int .i64 40, .int .i64 1000, .int .i64 100, .slice (some ⟨w3.heap.size, 0, none⟩) 1 1] 77 (0, 0)) := by rw [heap_setCell_same _ _ _ _ _ _ A3.out]; rfl
  have b3 : Below w.heap.size w (w3.setCell ⟨ab, 6, none⟩ (.slice (some ⟨w3.heap.size, 0, none⟩) 1 1)) := Below.setCell B3.out G2.out _
  have hb4 := below_new' (w3.setCell ⟨ab, 6, none⟩ (.slice (some ⟨w3.heap.size, 0, none⟩) 1 1)) (.cells #[.string ⟨#[97, 99]⟩] 9)
  have K5 : Hid (Kn w eb pb ab w3.heap.size xPols #[.string ⟨#[80, 110, 49, 59]⟩, .string ⟨#[80, 110, 52, 59]⟩, .int .i64 500, .int .i64 40, .int .i64 1000, .int .i64 100, .slice (some ⟨w3.heap.size, 0, none⟩) 1 1] ((w3.setCell ⟨ab, 6, none⟩ (.slice (some ⟨w3.heap.size, 0, none⟩) 1 1)).alloc (.cells #[.string ⟨#[97, 99]⟩] 9))) := ⟨btr b3 hb4, (hb4.block _ (lt_of_heap e3)).trans e3, (hb4.block _ (lt_of_heap p3)).trans p3, (hb4.block _ (lt_of_heap a3)).trans a3, by have := heap_alloc_at (w3.setCell ⟨ab, 6, none⟩ (.slice (some ⟨w3.heap.size, 0, none⟩) 1 1)) (.cells #[.string ⟨#[97, 99]⟩] 9); simpa using this, G1.out, G2.out⟩
  clear hF e3 p3 a3 b3 hb4
  generalize (w3.setCell ⟨ab, 6, none⟩ (.slice (some ⟨w3.heap.size, 0, none⟩) 1 1)).alloc (.cells #[.string ⟨#[97, 99]⟩] 9) = w5 at K5 ⊢
  generalize w3.heap.size = bb at K5 ⊢
  clear B3 E3 P3 A3 G1 G2 B2 E2 P2 B1 E1 P1
  have K5' : Hid (Kn w eb pb ab bb (yPol false 0 1000000) #[.string ⟨#[80, 110, 49, 59]⟩, .string ⟨#[80, 110, 52, 59]⟩, .int .i64 500, .int .i64 40, .int .i64 1000, .int .i64 100, .slice (some ⟨bb, 0, none⟩) 1 1] w5) := K5.out
  clear K5
  obtain ⟨a0, a1, a2, a3, a4, a5, a6⟩ := ask_cells K5'.out.a
  have al := lt_of_heap K5'.out.a
  have HF : Hid (Calls Tryd.prog 39 #[.slice (some ⟨eb, 0, none⟩) 4 4, .slice (some ⟨pb, 0, none⟩) 3 3, .agg #[.string ⟨#[80, 110, 49, 59]⟩, .string ⟨#[80, 110, 52, 59]⟩, .int .i64 500, .int .i64 40, .int .i64 1000, .int .i64 100, .slice (some ⟨bb, 0, none⟩) 1 1]] w5 fun e w' => ∃ lo lc, e = .returned (.tuple #[.slice lo 3 lc, .int .i64 0]) ∧ RowsAt 4 hpC lo yHops w' ∧ Kn w eb pb ab bb (yPol false 0 1000000) #[.string ⟨#[80, 110, 49, 59]⟩, .string ⟨#[80, 110, 52, 59]⟩, .int .i64 500, .int .i64 40, .int .i64 1000, .int .i64 100, .slice (some ⟨bb, 0, none⟩) 1 1] w' ∧ Below w5.heap.size w5 w') := kn_find K5'.out (Below.refl _ _) (HL.out.below K5'.out.bel) (some ⟨eb, 0, none⟩) xEdges 4 (some ⟨pb, 0, none⟩) (yPol false 0 1000000) 3 ⟨⟨#[80, 110, 49, 59]⟩, ⟨#[80, 110, 52, 59]⟩, 500, 40, 1000, 100, [⟨#[97, 99]⟩]⟩ (some ⟨bb, 0, none⟩) 1 (by decide) (by decide) (rows_of edgC_len K5'.out.e) (rows_of plcC_len K5'.out.p) (bad_at K5'.out) kf1 rfl
  go_upto_region 5 with (go_at_call 39; (with_reducible refine Calls.mono HF.out ?_); rintro e1 w1a ⟨lo1, lc1, rfl, hr, hk, hbb⟩; have K1a := Lib.hid hk; have R1 := Lib.hid hr; clear hr hk hbb)
  clear a0 a1 a2 a3 a4 a5 a6 al HF
  have NR : Hid (RowsAt 4 hpC (some ⟨w1a.heap.size, 0, none⟩) yHops (w1a.alloc (.cells (yHops.flatMap hpC).toArray 33))) := rows_of hpC_len (heap_alloc_at _ _)
  have RR := Lib.hid (R1.out.below (below_new' w1a (.cells (yHops.flatMap hpC).toArray 33)))
  have KN := Lib.hid (K1a.out.next (below_new' w1a (.cells (yHops.flatMap hpC).toArray 33)))
  go_upto_region 6 with (go_at_call 44; (refine Calls.mono (same_yes yHops lo1 lc1 (some ⟨w1a.heap.size, 0, none⟩) 3 _ RR.out NR.out (by decide)) ?_); rintro e6 w6 ⟨rfl, hb⟩; have K6 := Lib.hid (KN.out.next hb); clear hb)
  clear NR RR KN R1
  obtain ⟨a0, a1, a2, a3, a4, a5, a6⟩ := ask_cells K6.out.a
  have fz : w6.frozen? ⟨ab, 5, none⟩ = false := by simp [World.frozen?, K6.out.a]
  have al := lt_of_heap K6.out.a
  go_upto_region 7 with fail
  clear a0 a1 a2 a3 a4 a5 a6 fz al
  have K2a := Lib.hid (Kn.setA K6.out 5 (.int .i64 20) (A' := #[.string ⟨#[80, 110, 49, 59]⟩, .string ⟨#[80, 110, 52, 59]⟩, .int .i64 500, .int .i64 40, .int .i64 1000, .int .i64 20, .slice (some ⟨bb, 0, none⟩) 1 1]) rfl)
  generalize w6.setCell ⟨ab, 5, none⟩ (.int .i64 20) = w2a at K2a ⊢
  obtain ⟨a0, a1, a2, a3, a4, a5, a6⟩ := ask_cells K2a.out.a
  have al := lt_of_heap K2a.out.a
  have HF : Hid (Calls Tryd.prog 39 #[.slice (some ⟨eb, 0, none⟩) 4 4, .slice (some ⟨pb, 0, none⟩) 3 3, .agg #[.string ⟨#[80, 110, 49, 59]⟩, .string ⟨#[80, 110, 52, 59]⟩, .int .i64 500, .int .i64 40, .int .i64 1000, .int .i64 20, .slice (some ⟨bb, 0, none⟩) 1 1]] w2a fun e w' => ∃ lo lc, e = .returned (.tuple #[.slice lo 3 lc, .int .i64 0]) ∧ RowsAt 4 hpC lo (findN isKey xEdges (yPol false 0 1000000) ⟨⟨#[80, 110, 49, 59]⟩, ⟨#[80, 110, 52, 59]⟩, 500, 40, 1000, 20, [⟨#[97, 99]⟩]⟩).1 w' ∧ Kn w eb pb ab bb (yPol false 0 1000000) #[.string ⟨#[80, 110, 49, 59]⟩, .string ⟨#[80, 110, 52, 59]⟩, .int .i64 500, .int .i64 40, .int .i64 1000, .int .i64 20, .slice (some ⟨bb, 0, none⟩) 1 1] w' ∧ Below w2a.heap.size w2a w') := kn_find K2a.out (Below.refl _ _) (HL.out.below K2a.out.bel) (some ⟨eb, 0, none⟩) xEdges 4 (some ⟨pb, 0, none⟩) (yPol false 0 1000000) 3 ⟨⟨#[80, 110, 49, 59]⟩, ⟨#[80, 110, 52, 59]⟩, 500, 40, 1000, 20, [⟨#[97, 99]⟩]⟩ (some ⟨bb, 0, none⟩) 1 (by decide) (by decide) (rows_of edgC_len K2a.out.e) (rows_of plcC_len K2a.out.p) (bad_at K2a.out) kf3 kg3
  go_upto_region 8 with (go_at_call 39; (with_reducible refine Calls.mono HF.out ?_); rintro e3 w3a ⟨lo3, lc3, rfl, hr, hk, hbb⟩; have K3a := Lib.hid hk; have R3 := Lib.hid hr; clear hr hk hbb)
  clear a0 a1 a2 a3 a4 a5 a6 al HF R3
  obtain ⟨a0, a1, a2, a3, a4, a5, a6⟩ := ask_cells K3a.out.a
  have fz : w3a.frozen? ⟨ab, 5, none⟩ = false := by simp [World.frozen?, K3a.out.a]
  have al := lt_of_heap K3a.out.a
  go_upto_region 9 with fail
  clear a0 a1 a2 a3 a4 a5 a6 fz al
  have K4a := Lib.hid (Kn.setA K3a.out 5 (.int .i64 19) (A' := #[.string ⟨#[80, 110, 49, 59]⟩, .string ⟨#[80, 110, 52, 59]⟩, .int .i64 500, .int .i64 40, .int .i64 1000, .int .i64 19, .slice (some ⟨bb, 0, none⟩) 1 1]) rfl)
  generalize w3a.setCell ⟨ab, 5, none⟩ (.int .i64 19) = w4a at K4a ⊢
  obtain ⟨a0, a1, a2, a3, a4, a5, a6⟩ := ask_cells K4a.out.a
  have al := lt_of_heap K4a.out.a
  have HF : Hid (Calls Tryd.prog 39 #[.slice (some ⟨eb, 0, none⟩) 4 4, .slice (some ⟨pb, 0, none⟩) 3 3, .agg #[.string ⟨#[80, 110, 49, 59]⟩, .string ⟨#[80, 110, 52, 59]⟩, .int .i64 500, .int .i64 40, .int .i64 1000, .int .i64 19, .slice (some ⟨bb, 0, none⟩) 1 1]] w4a fun e w' => ∃ lo lc, e = .returned (.tuple #[.slice lo 0 lc, .int .i64 260]) ∧ RowsAt 4 hpC lo [] w' ∧ Kn w eb pb ab bb (yPol false 0 1000000) #[.string ⟨#[80, 110, 49, 59]⟩, .string ⟨#[80, 110, 52, 59]⟩, .int .i64 500, .int .i64 40, .int .i64 1000, .int .i64 19, .slice (some ⟨bb, 0, none⟩) 1 1] w' ∧ Below w4a.heap.size w4a w') := kn_find K4a.out (Below.refl _ _) (HL.out.below K4a.out.bel) (some ⟨eb, 0, none⟩) xEdges 4 (some ⟨pb, 0, none⟩) (yPol false 0 1000000) 3 ⟨⟨#[80, 110, 49, 59]⟩, ⟨#[80, 110, 52, 59]⟩, 500, 40, 1000, 19, [⟨#[97, 99]⟩]⟩ (some ⟨bb, 0, none⟩) 1 (by decide) (by decide) (rows_of edgC_len K4a.out.e) (rows_of plcC_len K4a.out.p) (bad_at K4a.out) kf5 rfl
  go_upto_region 10 with (go_at_call 39; (with_reducible refine Calls.mono HF.out ?_); rintro e5 w5a ⟨lo5, lc5, rfl, hr, hk, hbb⟩; have K5a := Lib.hid hk; have R5 := Lib.hid hr; clear hr hk hbb)
  clear a0 a1 a2 a3 a4 a5 a6 al HF R5
  obtain ⟨a0, a1, a2, a3, a4, a5, a6⟩ := ask_cells K5a.out.a
  have fz : w5a.frozen? ⟨ab, 5, none⟩ = false := by simp [World.frozen?, K5a.out.a]
  have al := lt_of_heap K5a.out.a
  go_upto_region 11 with fail
  clear a0 a1 a2 a3 a4 a5 a6 fz al
  have K6a := Lib.hid (Kn.setA K5a.out 5 (.int .i64 100) (A' := #[.string ⟨#[80, 110, 49, 59]⟩, .string ⟨#[80, 110, 52, 59]⟩, .int .i64 500, .int .i64 40, .int .i64 1000, .int .i64 100, .slice (some ⟨bb, 0, none⟩) 1 1]) rfl)
  generalize w5a.setCell ⟨ab, 5, none⟩ (.int .i64 100) = w6a at K6a ⊢
  obtain ⟨a0, a1, a2, a3, a4, a5, a6⟩ := ask_cells K6a.out.a
  have fz : w6a.frozen? ⟨ab, 4, none⟩ = false := by simp [World.frozen?, K6a.out.a]
  have al := lt_of_heap K6a.out.a
  go_upto_region 12 with fail
  clear a0 a1 a2 a3 a4 a5 a6 fz al
  have K7a := Lib.hid (Kn.setA K6a.out 4 (.int .i64 49) (A' := #[.string ⟨#[80, 110, 49, 59]⟩, .string ⟨#[80, 110, 52, 59]⟩, .int .i64 500, .int .i64 40, .int .i64 49, .int .i64 100, .slice (some ⟨bb, 0, none⟩) 1 1]) rfl)
  generalize w6a.setCell ⟨ab, 4, none⟩ (.int .i64 49) = w7a at K7a ⊢
  obtain ⟨a0, a1, a2, a3, a4, a5, a6⟩ := ask_cells K7a.out.a
  have al := lt_of_heap K7a.out.a
  have HF : Hid (Calls Tryd.prog 39 #[.slice (some ⟨eb, 0, none⟩) 4 4, .slice (some ⟨pb, 0, none⟩) 3 3, .agg #[.string ⟨#[80, 110, 49, 59]⟩, .string ⟨#[80, 110, 52, 59]⟩, .int .i64 500, .int .i64 40, .int .i64 49, .int .i64 100, .slice (some ⟨bb, 0, none⟩) 1 1]] w7a fun e w' => ∃ lo lc, e = .returned (.tuple #[.slice lo 0 lc, .int .i64 260]) ∧ RowsAt 4 hpC lo [] w' ∧ Kn w eb pb ab bb (yPol false 0 1000000) #[.string ⟨#[80, 110, 49, 59]⟩, .string ⟨#[80, 110, 52, 59]⟩, .int .i64 500, .int .i64 40, .int .i64 49, .int .i64 100, .slice (some ⟨bb, 0, none⟩) 1 1] w' ∧ Below w7a.heap.size w7a w') := kn_find K7a.out (Below.refl _ _) (HL.out.below K7a.out.bel) (some ⟨eb, 0, none⟩) xEdges 4 (some ⟨pb, 0, none⟩) (yPol false 0 1000000) 3 ⟨⟨#[80, 110, 49, 59]⟩, ⟨#[80, 110, 52, 59]⟩, 500, 40, 49, 100, [⟨#[97, 99]⟩]⟩ (some ⟨bb, 0, none⟩) 1 (by decide) (by decide) (rows_of edgC_len K7a.out.e) (rows_of plcC_len K7a.out.p) (bad_at K7a.out) kf8 rfl
  go_upto_region 13 with (go_at_call 39; (with_reducible refine Calls.mono HF.out ?_); rintro e8 w8a ⟨lo8, lc8, rfl, hr, hk, hbb⟩; have K8a := Lib.hid hk; have R8 := Lib.hid hr; clear hr hk hbb)
  clear a0 a1 a2 a3 a4 a5 a6 al HF R8
  go_upto_region 14 with (first
    | (go_at_call 43; (with_reducible refine Calls.mono (ask_r4 _) ?_); rintro e9 w9b ⟨rfl, hb⟩; have K9b := Lib.hid (K8a.out.next hb); clear hb)
    | (with_reducible refine wpList_store_row rfl 77 (.tmp 3) (.tmp 96) rfl ab #[.string ⟨#[80, 110, 49, 59]⟩, .string ⟨#[80, 110, 52, 59]⟩, .int .i64 500, .int .i64 40, .int .i64 1000, .int .i64 100, .slice none 0 0] rfl rfl 77 _ K9b.out.a (by kernel_rfl) rfl (by simp [Value.oneCell']) ?_))
  have K9a := Lib.hid (Kn.rowA K9b.out #[.string ⟨#[80, 110, 49, 59]⟩, .string ⟨#[80, 110, 52, 59]⟩, .int .i64 500, .int .i64 40, .int .i64 1000, .int .i64 100, .slice none 0 0])
  generalize w9b.setRow ab #[.string ⟨#[80, 110, 49, 59]⟩, .string ⟨#[80, 110, 52, 59]⟩, .int .i64 500, .int .i64 40, .int .i64 1000, .int .i64 100, .slice none 0 0] = w9a at K9a ⊢
  obtain ⟨cv, hcv⟩ : ∃ v, w9a.cell? ⟨pb, 17, none⟩ = some v := ⟨_, by rw [cell_of_row _ _ _ _ _ _ K9a.out.p]; rfl⟩
  have fz : w9a.frozen? ⟨pb, 17, none⟩ = false := by simp [World.frozen?, K9a.out.p]
  have al := lt_of_heap K9a.out.p
  go_upto_region 15 with fail
  clear hcv fz al
  have K10a := Lib.hid (Kn.setP K9a.out 17 (.bool true) (P' := (yPol true 0 1000000)) rfl)
  generalize w9a.setCell ⟨pb, 17, none⟩ (.bool true) = w10a at K10a ⊢
  obtain ⟨a0, a1, a2, a3, a4, a5, a6⟩ := ask_cells K10a.out.a
  have al := lt_of_heap K10a.out.a
  have HF : Hid (Calls Tryd.prog 39 #[.slice (some ⟨eb, 0, none⟩) 4 4, .slice (some ⟨pb, 0, none⟩) 3 3, .agg #[.string ⟨#[80, 110, 49, 59]⟩, .string ⟨#[80, 110, 52, 59]⟩, .int .i64 500, .int .i64 40, .int .i64 1000, .int .i64 100, .slice none 0 0]] w10a fun e w' => ∃ lo lc, e = .returned (.tuple #[.slice lo 0 lc, .int .i64 260]) ∧ RowsAt 4 hpC lo [] w' ∧ Kn w eb pb ab bb (yPol true 0 1000000) #[.string ⟨#[80, 110, 49, 59]⟩, .string ⟨#[80, 110, 52, 59]⟩, .int .i64 500, .int .i64 40, .int .i64 1000, .int .i64 100, .slice none 0 0] w' ∧ Below w10a.heap.size w10a w') := kn_find K10a.out (Below.refl _ _) (HL.out.below K10a.out.bel) (some ⟨eb, 0, none⟩) xEdges 4 (some ⟨pb, 0, none⟩) (yPol true 0 1000000) 3 ⟨⟨#[80, 110, 49, 59]⟩, ⟨#[80, 110, 52, 59]⟩, 500, 40, 1000, 100, []⟩ none 0 (by decide) (by decide) (rows_of edgC_len K10a.out.e) (rows_of plcC_len K10a.out.p) (.inl rfl) kf11 rfl
  go_upto_region 16 with (go_at_call 39; (with_reducible refine Calls.mono HF.out ?_); rintro e11 w11a ⟨lo11, lc11, rfl, hr, hk, hbb⟩; have K11a := Lib.hid hk; have R11 := Lib.hid hr; clear hr hk hbb)
  clear a0 a1 a2 a3 a4 a5 a6 al HF R11
  obtain ⟨cv, hcv⟩ : ∃ v, w11a.cell? ⟨pb, 17, none⟩ = some v := ⟨_, by rw [cell_of_row _ _ _ _ _ _ K11a.out.p]; rfl⟩
  have fz : w11a.frozen? ⟨pb, 17, none⟩ = false := by simp [World.frozen?, K11a.out.p]
  have al := lt_of_heap K11a.out.p
  go_upto_region 17 with fail
  clear hcv fz al
  have K12a := Lib.hid (Kn.setP K11a.out 17 (.bool false) (P' := (yPol false 0 1000000)) rfl)
  generalize w11a.setCell ⟨pb, 17, none⟩ (.bool false) = w12a at K12a ⊢
  obtain ⟨cv, hcv⟩ : ∃ v, w12a.cell? ⟨pb, 15, none⟩ = some v := ⟨_, by rw [cell_of_row _ _ _ _ _ _ K12a.out.p]; rfl⟩
  have fz : w12a.frozen? ⟨pb, 15, none⟩ = false := by simp [World.frozen?, K12a.out.p]
  have al := lt_of_heap K12a.out.p
  go_upto_region 18 with fail
  clear hcv fz al
  have K13a := Lib.hid (Kn.setP K12a.out 15 (.int .i64 501) (P' := (yPol false 501 1000000)) rfl)
  generalize w12a.setCell ⟨pb, 15, none⟩ (.int .i64 501) = w13a at K13a ⊢
  obtain ⟨a0, a1, a2, a3, a4, a5, a6⟩ := ask_cells K13a.out.a
  have al := lt_of_heap K13a.out.a
  have HF : Hid (Calls Tryd.prog 39 #[.slice (some ⟨eb, 0, none⟩) 4 4, .slice (some ⟨pb, 0, none⟩) 3 3, .agg #[.string ⟨#[80, 110, 49, 59]⟩, .string ⟨#[80, 110, 52, 59]⟩, .int .i64 500, .int .i64 40, .int .i64 1000, .int .i64 100, .slice none 0 0]] w13a fun e w' => ∃ lo lc, e = .returned (.tuple #[.slice lo 0 lc, .int .i64 260]) ∧ RowsAt 4 hpC lo [] w' ∧ Kn w eb pb ab bb (yPol false 501 1000000) #[.string ⟨#[80, 110, 49, 59]⟩, .string ⟨#[80, 110, 52, 59]⟩, .int .i64 500, .int .i64 40, .int .i64 1000, .int .i64 100, .slice none 0 0] w' ∧ Below w13a.heap.size w13a w') := kn_find K13a.out (Below.refl _ _) (HL.out.below K13a.out.bel) (some ⟨eb, 0, none⟩) xEdges 4 (some ⟨pb, 0, none⟩) (yPol false 501 1000000) 3 ⟨⟨#[80, 110, 49, 59]⟩, ⟨#[80, 110, 52, 59]⟩, 500, 40, 1000, 100, []⟩ none 0 (by decide) (by decide) (rows_of edgC_len K13a.out.e) (rows_of plcC_len K13a.out.p) (.inl rfl) kf14 rfl
  go_upto_region 19 with (go_at_call 39; (with_reducible refine Calls.mono HF.out ?_); rintro e14 w14a ⟨lo14, lc14, rfl, hr, hk, hbb⟩; have K14a := Lib.hid hk; have R14 := Lib.hid hr; clear hr hk hbb)
  clear a0 a1 a2 a3 a4 a5 a6 al HF R14
  obtain ⟨cv, hcv⟩ : ∃ v, w14a.cell? ⟨pb, 15, none⟩ = some v := ⟨_, by rw [cell_of_row _ _ _ _ _ _ K14a.out.p]; rfl⟩
  have fz : w14a.frozen? ⟨pb, 15, none⟩ = false := by simp [World.frozen?, K14a.out.p]
  have al := lt_of_heap K14a.out.p
  go_upto_region 20 with fail
  clear hcv fz al
  have K15a := Lib.hid (Kn.setP K14a.out 15 (.int .i64 0) (P' := (yPol false 0 1000000)) rfl)
  generalize w14a.setCell ⟨pb, 15, none⟩ (.int .i64 0) = w15a at K15a ⊢
  obtain ⟨cv, hcv⟩ : ∃ v, w15a.cell? ⟨pb, 16, none⟩ = some v := ⟨_, by rw [cell_of_row _ _ _ _ _ _ K15a.out.p]; rfl⟩
  have fz : w15a.frozen? ⟨pb, 16, none⟩ = false := by simp [World.frozen?, K15a.out.p]
  have al := lt_of_heap K15a.out.p
  go_upto_region 21 with fail
  clear hcv fz al
  have K16a := Lib.hid (Kn.setP K15a.out 16 (.int .i64 499) (P' := (yPol false 0 499)) rfl)
  generalize w15a.setCell ⟨pb, 16, none⟩ (.int .i64 499) = w16a at K16a ⊢
  obtain ⟨a0, a1, a2, a3, a4, a5, a6⟩ := ask_cells K16a.out.a
  have al := lt_of_heap K16a.out.a
  have HF : Hid (Calls Tryd.prog 39 #[.slice (some ⟨eb, 0, none⟩) 4 4, .slice (some ⟨pb, 0, none⟩) 3 3, .agg #[.string ⟨#[80, 110, 49, 59]⟩, .string ⟨#[80, 110, 52, 59]⟩, .int .i64 500, .int .i64 40, .int .i64 1000, .int .i64 100, .slice none 0 0]] w16a fun e w' => ∃ lo lc, e = .returned (.tuple #[.slice lo 0 lc, .int .i64 260]) ∧ RowsAt 4 hpC lo [] w' ∧ Kn w eb pb ab bb (yPol false 0 499) #[.string ⟨#[80, 110, 49, 59]⟩, .string ⟨#[80, 110, 52, 59]⟩, .int .i64 500, .int .i64 40, .int .i64 1000, .int .i64 100, .slice none 0 0] w' ∧ Below w16a.heap.size w16a w') := kn_find K16a.out (Below.refl _ _) (HL.out.below K16a.out.bel) (some ⟨eb, 0, none⟩) xEdges 4 (some ⟨pb, 0, none⟩) (yPol false 0 499) 3 ⟨⟨#[80, 110, 49, 59]⟩, ⟨#[80, 110, 52, 59]⟩, 500, 40, 1000, 100, []⟩ none 0 (by decide) (by decide) (rows_of edgC_len K16a.out.e) (rows_of plcC_len K16a.out.p) (.inl rfl) kf17 rfl
  go_upto_region 22 with (go_at_call 39; (with_reducible refine Calls.mono HF.out ?_); rintro e17 w17a ⟨lo17, lc17, rfl, hr, hk, hbb⟩; have K17a := Lib.hid hk; have R17 := Lib.hid hr; clear hr hk hbb)
  clear a0 a1 a2 a3 a4 a5 a6 al HF R17
  obtain ⟨cv, hcv⟩ : ∃ v, w17a.cell? ⟨pb, 16, none⟩ = some v := ⟨_, by rw [cell_of_row _ _ _ _ _ _ K17a.out.p]; rfl⟩
  have fz : w17a.frozen? ⟨pb, 16, none⟩ = false := by simp [World.frozen?, K17a.out.p]
  have al := lt_of_heap K17a.out.p
  go_upto_region 23 with fail
  clear hcv fz al
  have K18a := Lib.hid (Kn.setP K17a.out 16 (.int .i64 500) (P' := (yPol false 0 500)) rfl)
  generalize w17a.setCell ⟨pb, 16, none⟩ (.int .i64 500) = w18a at K18a ⊢
  obtain ⟨a0, a1, a2, a3, a4, a5, a6⟩ := ask_cells K18a.out.a
  have al := lt_of_heap K18a.out.a
  have HF : Hid (Calls Tryd.prog 39 #[.slice (some ⟨eb, 0, none⟩) 4 4, .slice (some ⟨pb, 0, none⟩) 3 3, .agg #[.string ⟨#[80, 110, 49, 59]⟩, .string ⟨#[80, 110, 52, 59]⟩, .int .i64 500, .int .i64 40, .int .i64 1000, .int .i64 100, .slice none 0 0]] w18a fun e w' => ∃ lo lc, e = .returned (.tuple #[.slice lo 2 lc, .int .i64 0]) ∧ RowsAt 4 hpC lo (findN isKey xEdges (yPol false 0 500) ⟨⟨#[80, 110, 49, 59]⟩, ⟨#[80, 110, 52, 59]⟩, 500, 40, 1000, 100, []⟩).1 w' ∧ Kn w eb pb ab bb (yPol false 0 500) #[.string ⟨#[80, 110, 49, 59]⟩, .string ⟨#[80, 110, 52, 59]⟩, .int .i64 500, .int .i64 40, .int .i64 1000, .int .i64 100, .slice none 0 0] w' ∧ Below w18a.heap.size w18a w') := kn_find K18a.out (Below.refl _ _) (HL.out.below K18a.out.bel) (some ⟨eb, 0, none⟩) xEdges 4 (some ⟨pb, 0, none⟩) (yPol false 0 500) 3 ⟨⟨#[80, 110, 49, 59]⟩, ⟨#[80, 110, 52, 59]⟩, 500, 40, 1000, 100, []⟩ none 0 (by decide) (by decide) (rows_of edgC_len K18a.out.e) (rows_of plcC_len K18a.out.p) (.inl rfl) kf19 kg19
  go_upto_region 24 with (go_at_call 39; (with_reducible refine Calls.mono HF.out ?_); rintro e19 w19a ⟨lo19, lc19, rfl, hr, hk, hbb⟩; have K19a := Lib.hid hk; have R19 := Lib.hid hr; clear hr hk hbb)
  clear a0 a1 a2 a3 a4 a5 a6 al HF R19
  go_upto_region 25 with fail
  obtain ⟨a0, a1, a2, a3, a4, a5, a6⟩ := ask_cells K19a.out.a
  have fz : w19a.frozen? ⟨ab, 1, none⟩ = false := by simp [World.frozen?, K19a.out.a]
  have al := lt_of_heap K19a.out.a
  go_upto_region 26 with fail
  clear a0 a1 a2 a3 a4 a5 a6 fz al
  have K20a := Lib.hid (Kn.setA K19a.out 1 (.string ⟨#[80, 110, 49, 59]⟩) (A' := #[.string ⟨#[80, 110, 49, 59]⟩, .string ⟨#[80, 110, 49, 59]⟩, .int .i64 500, .int .i64 40, .int .i64 1000, .int .i64 100, .slice none 0 0]) rfl)
  generalize w19a.setCell ⟨ab, 1, none⟩ (.string ⟨#[80, 110, 49, 59]⟩) = w20a at K20a ⊢
  obtain ⟨a0, a1, a2, a3, a4, a5, a6⟩ := ask_cells K20a.out.a
  have al := lt_of_heap K20a.out.a
  have HF : Hid (Calls Tryd.prog 39 #[.slice (some ⟨eb, 0, none⟩) 4 4, .slice (some ⟨pb, 0, none⟩) 3 3, .agg #[.string ⟨#[80, 110, 49, 59]⟩, .string ⟨#[80, 110, 49, 59]⟩, .int .i64 500, .int .i64 40, .int .i64 1000, .int .i64 100, .slice none 0 0]] w20a fun e w' => ∃ lo lc, e = .returned (.tuple #[.slice lo 0 lc, .int .i64 2]) ∧ RowsAt 4 hpC lo [] w' ∧ Kn w eb pb ab bb (yPol false 0 500) #[.string ⟨#[80, 110, 49, 59]⟩, .string ⟨#[80, 110, 49, 59]⟩, .int .i64 500, .int .i64 40, .int .i64 1000, .int .i64 100, .slice none 0 0] w' ∧ Below w20a.heap.size w20a w') := kn_find K20a.out (Below.refl _ _) (HL.out.below K20a.out.bel) (some ⟨eb, 0, none⟩) xEdges 4 (some ⟨pb, 0, none⟩) (yPol false 0 500) 3 ⟨⟨#[80, 110, 49, 59]⟩, ⟨#[80, 110, 49, 59]⟩, 500, 40, 1000, 100, []⟩ none 0 (by decide) (by decide) (rows_of edgC_len K20a.out.e) (rows_of plcC_len K20a.out.p) (.inl rfl) kf21 rfl
  go_upto_region 27 with (go_at_call 39; (with_reducible refine Calls.mono HF.out ?_); rintro e21 w21a ⟨lo21, lc21, rfl, hr, hk, hbb⟩; have K21a := Lib.hid hk; have R21 := Lib.hid hr; clear hr hk hbb)
  clear a0 a1 a2 a3 a4 a5 a6 al HF R21
  go_upto_region 28 with (first
    | (go_at_call 43; (with_reducible refine Calls.mono (ask_r4 _) ?_); rintro e22 w22b ⟨rfl, hb⟩; have K22b := Lib.hid (K21a.out.next hb); clear hb)
    | (with_reducible refine wpList_store_row rfl 77 (.tmp 3) (.tmp 177) rfl ab #[.string ⟨#[80, 110, 49, 59]⟩, .string ⟨#[80, 110, 52, 59]⟩, .int .i64 500, .int .i64 40, .int .i64 1000, .int .i64 100, .slice none 0 0] rfl rfl 77 _ K22b.out.a (by kernel_rfl) rfl (by simp [Value.oneCell']) ?_))
  have K22a := Lib.hid (Kn.rowA K22b.out #[.string ⟨#[80, 110, 49, 59]⟩, .string ⟨#[80, 110, 52, 59]⟩, .int .i64 500, .int .i64 40, .int .i64 1000, .int .i64 100, .slice none 0 0])
  generalize w22b.setRow ab #[.string ⟨#[80, 110, 49, 59]⟩, .string ⟨#[80, 110, 52, 59]⟩, .int .i64 500, .int .i64 40, .int .i64 1000, .int .i64 100, .slice none 0 0] = w22a at K22a ⊢
  obtain ⟨a0, a1, a2, a3, a4, a5, a6⟩ := ask_cells K22a.out.a
  have fz : w22a.frozen? ⟨ab, 2, none⟩ = false := by simp [World.frozen?, K22a.out.a]
  have al := lt_of_heap K22a.out.a
  go_upto_region 29 with fail
  clear a0 a1 a2 a3 a4 a5 a6 fz al
  have K23a := Lib.hid (Kn.setA K22a.out 2 (.int .i64 0) (A' := #[.string ⟨#[80, 110, 49, 59]⟩, .string ⟨#[80, 110, 52, 59]⟩, .int .i64 0, .int .i64 40, .int .i64 1000, .int .i64 100, .slice none 0 0]) rfl)
  generalize w22a.setCell ⟨ab, 2, none⟩ (.int .i64 0) = w23a at K23a ⊢
  obtain ⟨a0, a1, a2, a3, a4, a5, a6⟩ := ask_cells K23a.out.a
  have al := lt_of_heap K23a.out.a
  have HF : Hid (Calls Tryd.prog 39 #[.slice (some ⟨eb, 0, none⟩) 4 4, .slice (some ⟨pb, 0, none⟩) 3 3, .agg #[.string ⟨#[80, 110, 49, 59]⟩, .string ⟨#[80, 110, 52, 59]⟩, .int .i64 0, .int .i64 40, .int .i64 1000, .int .i64 100, .slice none 0 0]] w23a fun e w' => ∃ lo lc, e = .returned (.tuple #[.slice lo 0 lc, .int .i64 40]) ∧ RowsAt 4 hpC lo [] w' ∧ Kn w eb pb ab bb (yPol false 0 500) #[.string ⟨#[80, 110, 49, 59]⟩, .string ⟨#[80, 110, 52, 59]⟩, .int .i64 0, .int .i64 40, .int .i64 1000, .int .i64 100, .slice none 0 0] w' ∧ Below w23a.heap.size w23a w') := kn_find K23a.out (Below.refl _ _) (HL.out.below K23a.out.bel) (some ⟨eb, 0, none⟩) xEdges 4 (some ⟨pb, 0, none⟩) (yPol false 0 500) 3 ⟨⟨#[80, 110, 49, 59]⟩, ⟨#[80, 110, 52, 59]⟩, 0, 40, 1000, 100, []⟩ none 0 (by decide) (by decide) (rows_of edgC_len K23a.out.e) (rows_of plcC_len K23a.out.p) (.inl rfl) kf24 rfl
  go_upto_region 30 with (go_at_call 39; (with_reducible refine Calls.mono HF.out ?_); rintro e24 w24a ⟨lo24, lc24, rfl, hr, hk, hbb⟩; have K24a := Lib.hid hk; have R24 := Lib.hid hr; clear hr hk hbb)
  clear a0 a1 a2 a3 a4 a5 a6 al HF R24
  go_upto_region 31 with (first
    | (go_at_call 43; (with_reducible refine Calls.mono (ask_r4 _) ?_); rintro e25 w25b ⟨rfl, hb⟩; have K25b := Lib.hid (K24a.out.next hb); clear hb)
    | (with_reducible refine wpList_store_row rfl 77 (.tmp 3) (.tmp 186) rfl ab #[.string ⟨#[80, 110, 49, 59]⟩, .string ⟨#[80, 110, 52, 59]⟩, .int .i64 500, .int .i64 40, .int .i64 1000, .int .i64 100, .slice none 0 0] rfl rfl 77 _ K25b.out.a (by kernel_rfl) rfl (by simp [Value.oneCell']) ?_))
  have K25a := Lib.hid (Kn.rowA K25b.out #[.string ⟨#[80, 110, 49, 59]⟩, .string ⟨#[80, 110, 52, 59]⟩, .int .i64 500, .int .i64 40, .int .i64 1000, .int .i64 100, .slice none 0 0])
  generalize w25b.setRow ab #[.string ⟨#[80, 110, 49, 59]⟩, .string ⟨#[80, 110, 52, 59]⟩, .int .i64 500, .int .i64 40, .int .i64 1000, .int .i64 100, .slice none 0 0] = w25a at K25a ⊢
  obtain ⟨a0, a1, a2, a3, a4, a5, a6⟩ := ask_cells K25a.out.a
  have fz : w25a.frozen? ⟨ab, 5, none⟩ = false := by simp [World.frozen?, K25a.out.a]
  have al := lt_of_heap K25a.out.a
  go_upto_region 32 with fail
  clear a0 a1 a2 a3 a4 a5 a6 fz al
  have K26a := Lib.hid (Kn.setA K25a.out 5 (.int .i64 (-1)) (A' := #[.string ⟨#[80, 110, 49, 59]⟩, .string ⟨#[80, 110, 52, 59]⟩, .int .i64 500, .int .i64 40, .int .i64 1000, .int .i64 (-1), .slice none 0 0]) rfl)
  generalize w25a.setCell ⟨ab, 5, none⟩ (.int .i64 (-1)) = w26a at K26a ⊢
  obtain ⟨a0, a1, a2, a3, a4, a5, a6⟩ := ask_cells K26a.out.a
  have al := lt_of_heap K26a.out.a
  have HF : Hid (Calls Tryd.prog 39 #[.slice (some ⟨eb, 0, none⟩) 4 4, .slice (some ⟨pb, 0, none⟩) 3 3, .agg #[.string ⟨#[80, 110, 49, 59]⟩, .string ⟨#[80, 110, 52, 59]⟩, .int .i64 500, .int .i64 40, .int .i64 1000, .int .i64 (-1), .slice none 0 0]] w26a fun e w' => ∃ lo lc, e = .returned (.tuple #[.slice lo 0 lc, .int .i64 40]) ∧ RowsAt 4 hpC lo [] w' ∧ Kn w eb pb ab bb (yPol false 0 500) #[.string ⟨#[80, 110, 49, 59]⟩, .string ⟨#[80, 110, 52, 59]⟩, .int .i64 500, .int .i64 40, .int .i64 1000, .int .i64 (-1), .slice none 0 0] w' ∧ Below w26a.heap.size w26a w') := kn_find K26a.out (Below.refl _ _) (HL.out.below K26a.out.bel) (some ⟨eb, 0, none⟩) xEdges 4 (some ⟨pb, 0, none⟩) (yPol false 0 500) 3 ⟨⟨#[80, 110, 49, 59]⟩, ⟨#[80, 110, 52, 59]⟩, 500, 40, 1000, (-1), []⟩ none 0 (by decide) (by decide) (rows_of edgC_len K26a.out.e) (rows_of plcC_len K26a.out.p) (.inl rfl) kf27 rfl
  go_upto_region 33 with (go_at_call 39; (with_reducible refine Calls.mono HF.out ?_); rintro e27 w27a ⟨lo27, lc27, rfl, hr, hk, hbb⟩; have K27a := Lib.hid hk; have R27 := Lib.hid hr; clear hr hk hbb)
  clear a0 a1 a2 a3 a4 a5 a6 al HF R27
  go_upto_region 34 with (first
    | (go_at_call 43; (with_reducible refine Calls.mono (ask_r4 _) ?_); rintro e28 w28b ⟨rfl, hb⟩; have K28b := Lib.hid (K27a.out.next hb); clear hb)
    | (with_reducible refine wpList_store_row rfl 77 (.tmp 3) (.tmp 195) rfl ab #[.string ⟨#[80, 110, 49, 59]⟩, .string ⟨#[80, 110, 52, 59]⟩, .int .i64 500, .int .i64 40, .int .i64 1000, .int .i64 100, .slice none 0 0] rfl rfl 77 _ K28b.out.a (by kernel_rfl) rfl (by simp [Value.oneCell']) ?_))
  have K28a := Lib.hid (Kn.rowA K28b.out #[.string ⟨#[80, 110, 49, 59]⟩, .string ⟨#[80, 110, 52, 59]⟩, .int .i64 500, .int .i64 40, .int .i64 1000, .int .i64 100, .slice none 0 0])
  generalize w28b.setRow ab #[.string ⟨#[80, 110, 49, 59]⟩, .string ⟨#[80, 110, 52, 59]⟩, .int .i64 500, .int .i64 40, .int .i64 1000, .int .i64 100, .slice none 0 0] = w28a at K28a ⊢
  obtain ⟨a0, a1, a2, a3, a4, a5, a6⟩ := ask_cells K28a.out.a
  have fz : w28a.frozen? ⟨ab, 0, none⟩ = false := by simp [World.frozen?, K28a.out.a]
  have al := lt_of_heap K28a.out.a
  go_upto_region 35 with fail
  clear a0 a1 a2 a3 a4 a5 a6 fz al
  have K29a := Lib.hid (Kn.setA K28a.out 0 (.string ⟨#[110, 49, 59]⟩) (A' := #[.string ⟨#[110, 49, 59]⟩, .string ⟨#[80, 110, 52, 59]⟩, .int .i64 500, .int .i64 40, .int .i64 1000, .int .i64 100, .slice none 0 0]) rfl)
  generalize w28a.setCell ⟨ab, 0, none⟩ (.string ⟨#[110, 49, 59]⟩) = w29a at K29a ⊢
  obtain ⟨a0, a1, a2, a3, a4, a5, a6⟩ := ask_cells K29a.out.a
  have al := lt_of_heap K29a.out.a
  have HF : Hid (Calls Tryd.prog 39 #[.slice (some ⟨eb, 0, none⟩) 4 4, .slice (some ⟨pb, 0, none⟩) 3 3, .agg #[.string ⟨#[110, 49, 59]⟩, .string ⟨#[80, 110, 52, 59]⟩, .int .i64 500, .int .i64 40, .int .i64 1000, .int .i64 100, .slice none 0 0]] w29a fun e w' => ∃ lo lc, e = .returned (.tuple #[.slice lo 0 lc, .int .i64 2]) ∧ RowsAt 4 hpC lo [] w' ∧ Kn w eb pb ab bb (yPol false 0 500) #[.string ⟨#[110, 49, 59]⟩, .string ⟨#[80, 110, 52, 59]⟩, .int .i64 500, .int .i64 40, .int .i64 1000, .int .i64 100, .slice none 0 0] w' ∧ Below w29a.heap.size w29a w') := kn_find K29a.out (Below.refl _ _) (HL.out.below K29a.out.bel) (some ⟨eb, 0, none⟩) xEdges 4 (some ⟨pb, 0, none⟩) (yPol false 0 500) 3 ⟨⟨#[110, 49, 59]⟩, ⟨#[80, 110, 52, 59]⟩, 500, 40, 1000, 100, []⟩ none 0 (by decide) (by decide) (rows_of edgC_len K29a.out.e) (rows_of plcC_len K29a.out.p) (.inl rfl) kf30 rfl
  go_upto_region 36 with (go_at_call 39; (with_reducible refine Calls.mono HF.out ?_); rintro e30 w30a ⟨lo30, lc30, rfl, hr, hk, hbb⟩; have K30a := Lib.hid hk; have R30 := Lib.hid hr; clear hr hk hbb)
  clear a0 a1 a2 a3 a4 a5 a6 al HF R30
  go_upto_region 37 with (first
    | (go_at_call 43; (with_reducible refine Calls.mono (ask_r4 _) ?_); rintro e31 w31b ⟨rfl, hb⟩; have K31b := Lib.hid (K30a.out.next hb); clear hb)
    | (with_reducible refine wpList_store_row rfl 77 (.tmp 3) (.tmp 204) rfl ab #[.string ⟨#[80, 110, 49, 59]⟩, .string ⟨#[80, 110, 52, 59]⟩, .int .i64 500, .int .i64 40, .int .i64 1000, .int .i64 100, .slice none 0 0] rfl rfl 77 _ K31b.out.a (by kernel_rfl) rfl (by simp [Value.oneCell']) ?_))
  have K31a := Lib.hid (Kn.rowA K31b.out #[.string ⟨#[80, 110, 49, 59]⟩, .string ⟨#[80, 110, 52, 59]⟩, .int .i64 500, .int .i64 40, .int .i64 1000, .int .i64 100, .slice none 0 0])
  generalize w31b.setRow ab #[.string ⟨#[80, 110, 49, 59]⟩, .string ⟨#[80, 110, 52, 59]⟩, .int .i64 500, .int .i64 40, .int .i64 1000, .int .i64 100, .slice none 0 0] = w31a at K31a ⊢
  obtain ⟨a0, a1, a2, a3, a4, a5, a6⟩ := ask_cells K31a.out.a
  have fz : w31a.frozen? ⟨ab, 4, none⟩ = false := by simp [World.frozen?, K31a.out.a]
  have al := lt_of_heap K31a.out.a
  go_upto_region 38 with fail
  clear a0 a1 a2 a3 a4 a5 a6 fz al
  have K32a := Lib.hid (Kn.setA K31a.out 4 (.int .i64 2147483648) (A' := #[.string ⟨#[80, 110, 49, 59]⟩, .string ⟨#[80, 110, 52, 59]⟩, .int .i64 500, .int .i64 40, .int .i64 2147483648, .int .i64 100, .slice none 0 0]) rfl)
  generalize w31a.setCell ⟨ab, 4, none⟩ (.int .i64 2147483648) = w32a at K32a ⊢
  obtain ⟨a0, a1, a2, a3, a4, a5, a6⟩ := ask_cells K32a.out.a
  have al := lt_of_heap K32a.out.a
  have HF : Hid (Calls Tryd.prog 39 #[.slice (some ⟨eb, 0, none⟩) 4 4, .slice (some ⟨pb, 0, none⟩) 3 3, .agg #[.string ⟨#[80, 110, 49, 59]⟩, .string ⟨#[80, 110, 52, 59]⟩, .int .i64 500, .int .i64 40, .int .i64 2147483648, .int .i64 100, .slice none 0 0]] w32a fun e w' => ∃ lo lc, e = .returned (.tuple #[.slice lo 0 lc, .int .i64 2]) ∧ RowsAt 4 hpC lo [] w' ∧ Kn w eb pb ab bb (yPol false 0 500) #[.string ⟨#[80, 110, 49, 59]⟩, .string ⟨#[80, 110, 52, 59]⟩, .int .i64 500, .int .i64 40, .int .i64 2147483648, .int .i64 100, .slice none 0 0] w' ∧ Below w32a.heap.size w32a w') := kn_find K32a.out (Below.refl _ _) (HL.out.below K32a.out.bel) (some ⟨eb, 0, none⟩) xEdges 4 (some ⟨pb, 0, none⟩) (yPol false 0 500) 3 ⟨⟨#[80, 110, 49, 59]⟩, ⟨#[80, 110, 52, 59]⟩, 500, 40, 2147483648, 100, []⟩ none 0 (by decide) (by decide) (rows_of edgC_len K32a.out.e) (rows_of plcC_len K32a.out.p) (.inl rfl) kf33 rfl
  go_upto_region 39 with (go_at_call 39; (with_reducible refine Calls.mono HF.out ?_); rintro e33 w33a ⟨lo33, lc33, rfl, hr, hk, hbb⟩; have K33a := Lib.hid hk; have R33 := Lib.hid hr; clear hr hk hbb)
  clear a0 a1 a2 a3 a4 a5 a6 al HF R33
  go_upto_region 40 with (first
    | (go_at_call 43; (with_reducible refine Calls.mono (ask_r4 _) ?_); rintro e34 w34b ⟨rfl, hb⟩; have K34b := Lib.hid (K33a.out.next hb); clear hb)
    | (with_reducible refine wpList_store_row rfl 77 (.tmp 3) (.tmp 213) rfl ab #[.string ⟨#[80, 110, 49, 59]⟩, .string ⟨#[80, 110, 52, 59]⟩, .int .i64 500, .int .i64 40, .int .i64 1000, .int .i64 100, .slice none 0 0] rfl rfl 77 _ K34b.out.a (by kernel_rfl) rfl (by simp [Value.oneCell']) ?_))
  have K34a := Lib.hid (Kn.rowA K34b.out #[.string ⟨#[80, 110, 49, 59]⟩, .string ⟨#[80, 110, 52, 59]⟩, .int .i64 500, .int .i64 40, .int .i64 1000, .int .i64 100, .slice none 0 0])
  generalize w34b.setRow ab #[.string ⟨#[80, 110, 49, 59]⟩, .string ⟨#[80, 110, 52, 59]⟩, .int .i64 500, .int .i64 40, .int .i64 1000, .int .i64 100, .slice none 0 0] = w34a at K34a ⊢
  have HF : Hid (Calls Tryd.prog 39 #[.slice (some ⟨w34a.heap.size, 0, none⟩) 257 257, .slice (some ⟨pb, 0, none⟩) 3 3, .agg #[.string ⟨#[80, 110, 49, 59]⟩, .string ⟨#[80, 110, 52, 59]⟩, .int .i64 500, .int .i64 40, .int .i64 1000, .int .i64 100, .slice none 0 0]] ((w34a.alloc (.cells (madeCells #[.string ⟨#[]⟩, .string ⟨#[]⟩, .string ⟨#[]⟩, .int .i64 0] (257 * 4)) 91)).drew) (fun e w' => ∃ lo lc, e = .returned (.tuple #[.slice lo 0 lc, .int .i64 3]) ∧ RowsAt 4 hpC lo [] w' ∧ Kn w eb pb ab bb (yPol false 0 500) #[.string ⟨#[80, 110, 49, 59]⟩, .string ⟨#[80, 110, 52, 59]⟩, .int .i64 500, .int .i64 40, .int .i64 1000, .int .i64 100, .slice none 0 0] w' ∧ Below ((w34a.alloc (.cells (madeCells #[.string ⟨#[]⟩, .string ⟨#[]⟩, .string ⟨#[]⟩, .int .i64 0] (257 * 4)) 91)).drew).heap.size ((w34a.alloc (.cells (madeCells #[.string ⟨#[]⟩, .string ⟨#[]⟩, .string ⟨#[]⟩, .int .i64 0] (257 * 4)) 91)).drew) w')) := kn_find K34a.out (below_new' w34a (.cells (madeCells #[.string ⟨#[]⟩, .string ⟨#[]⟩, .string ⟨#[]⟩, .int .i64 0] (257 * 4)) 91)).drew (HL.out.below (btr K34a.out.bel (below_new' w34a (.cells (madeCells #[.string ⟨#[]⟩, .string ⟨#[]⟩, .string ⟨#[]⟩, .int .i64 0] (257 * 4)) 91)).drew)) (some ⟨w34a.heap.size, 0, none⟩) (List.replicate 257 edgZ) 257 (some ⟨pb, 0, none⟩) (yPol false 0 500) 3 ⟨⟨#[80, 110, 49, 59]⟩, ⟨#[80, 110, 52, 59]⟩, 500, 40, 1000, 100, []⟩ none 0 (by decide) (by decide) (rows_made (n := 4) edgC edgZ (by omega) rfl _ rfl 257 (heap_alloc_at w34a (.cells (madeCells #[.string ⟨#[]⟩, .string ⟨#[]⟩, .string ⟨#[]⟩, .int .i64 0] (257 * 4)) 91))) (rows_of plcC_len ((K34a.out.next (below_new' w34a (.cells (madeCells #[.string ⟨#[]⟩, .string ⟨#[]⟩, .string ⟨#[]⟩, .int .i64 0] (257 * 4)) 91))).p)) (.inl rfl) kf35 rfl
  have hmk := make_e
  have HCC : Hid _ := Lib.hid (ask_cells K34a.out.a)
  obtain ⟨a0, a1, a2, a3, a4, a5, a6⟩ := ask_cells K34a.out.a
  have al := lt_of_heap K34a.out.a
  (try dsimp only [Act.put])
  go_cut [32, 33] from 214 (fun lv ev wx => ∃ o n c, lv = .slice o n c ∧ ev = .int .i64 3 ∧ Hid (Kn w eb pb ab bb (yPol false 0 500) #[.string ⟨#[80, 110, 49, 59]⟩, .string ⟨#[80, 110, 52, 59]⟩, .int .i64 500, .int .i64 40, .int .i64 1000, .int .i64 100, .slice none 0 0] wx))
  case first =>
    go_region_held3 (fun W => Below w34a.heap.size w34a W ∧ W.cell? ⟨ab, 0, none⟩ = some (.string ⟨#[80, 110, 49, 59]⟩) ∧ W.cell? ⟨ab, 1, none⟩ = some (.string ⟨#[80, 110, 52, 59]⟩) ∧ W.cell? ⟨ab, 2, none⟩ = some (.int .i64 500) ∧ W.cell? ⟨ab, 3, none⟩ = some (.int .i64 40) ∧ W.cell? ⟨ab, 4, none⟩ = some (.int .i64 1000) ∧ W.cell? ⟨ab, 5, none⟩ = some (.int .i64 100) ∧ W.cell? ⟨ab, 6, none⟩ = some (.slice none 0 0))
      ((go_split_ands; exact keep7 (by repeat' (first | (with_reducible exact Below.refl _ _) | (with_reducible assumption) | (with_reducible refine Below.alloc ?_ ?_ _) | (with_reducible refine Below.drew ?_) | (with_reducible refine Below.setCell ?_ ?_ _) | (with_reducible refine bdN ?_ _) | assumption | go_size | (simp; omega))) HCC.out))
      ((go_at_call 39; (with_reducible refine Calls.mono HF.out ?_); rintro e35 w35a ⟨lo35, lc35, rfl, -, hk, hbx⟩; have K35a := Lib.hid hk; have hb35 := btr (below_new' w34a (.cells (madeCells #[.string ⟨#[]⟩, .string ⟨#[]⟩, .string ⟨#[]⟩, .int .i64 0] (257 * 4)) 91)).drew hbx; clear hk hbx))
    all_goals go_wp2_with fail
    all_goals go_meet
    all_goals exact ⟨_, _, _, rfl, rfl, K35a.out⟩
  case rest =>
    obtain ⟨lo35, ln35, lc35, rfl, rfl, K35a⟩ := hcut
    clear a0 a1 a2 a3 a4 a5 a6 al HF HCC hmk
    obtain ⟨w35a, rfl⟩ : ∃ q, q = wc := ⟨wc, rfl⟩
    have HF : Hid (Calls Tryd.prog 39 #[.slice (some ⟨eb, 0, none⟩) 4 4, .slice (some ⟨w35a.heap.size, 0, none⟩) 513 513, .agg #[.string ⟨#[80, 110, 49, 59]⟩, .string ⟨#[80, 110, 52, 59]⟩, .int .i64 500, .int .i64 40, .int .i64 1000, .int .i64 100, .slice none 0 0]] ((w35a.alloc (.cells (madeCells #[.string ⟨#[]⟩, .string ⟨#[]⟩, .int .i64 0, .int .i64 0, .int .i64 0, .int .i64 0, .int .i64 0, .int .i64 0, .bool false] (513 * 9)) 85)).drew) (fun e w' => ∃ lo lc, e = .returned (.tuple #[.slice lo 0 lc, .int .i64 3]) ∧ RowsAt 4 hpC lo [] w' ∧ Kn w eb pb ab bb (yPol false 0 500) #[.string ⟨#[80, 110, 49, 59]⟩, .string ⟨#[80, 110, 52, 59]⟩, .int .i64 500, .int .i64 40, .int .i64 1000, .int .i64 100, .slice none 0 0] w' ∧ Below ((w35a.alloc (.cells (madeCells #[.string ⟨#[]⟩, .string ⟨#[]⟩, .int .i64 0, .int .i64 0, .int .i64 0, .int .i64 0, .int .i64 0, .int .i64 0, .bool false] (513 * 9)) 85)).drew).heap.size ((w35a.alloc (.cells (madeCells #[.string ⟨#[]⟩, .string ⟨#[]⟩, .int .i64 0, .int .i64 0, .int .i64 0, .int .i64 0, .int .i64 0, .int .i64 0, .bool false] (513 * 9)) 85)).drew) w')) := kn_find K35a.out (below_new' w35a (.cells (madeCells #[.string ⟨#[]⟩, .string ⟨#[]⟩, .int .i64 0, .int .i64 0, .int .i64 0, .int .i64 0, .int .i64 0, .int .i64 0, .bool false] (513 * 9)) 85)).drew (HL.out.below (btr K35a.out.bel (below_new' w35a (.cells (madeCells #[.string ⟨#[]⟩, .string ⟨#[]⟩, .int .i64 0, .int .i64 0, .int .i64 0, .int .i64 0, .int .i64 0, .int .i64 0, .bool false] (513 * 9)) 85)).drew)) (some ⟨eb, 0, none⟩) xEdges 4 (some ⟨w35a.heap.size, 0, none⟩) (List.replicate 513 plcZ) 513 ⟨⟨#[80, 110, 49, 59]⟩, ⟨#[80, 110, 52, 59]⟩, 500, 40, 1000, 100, []⟩ none 0 (by decide) (by decide) (rows_of edgC_len ((K35a.out.next (below_new' w35a (.cells (madeCells #[.string ⟨#[]⟩, .string ⟨#[]⟩, .int .i64 0, .int .i64 0, .int .i64 0, .int .i64 0, .int .i64 0, .int .i64 0, .bool false] (513 * 9)) 85))).e)) (rows_made (n := 9) plcC plcZ (by omega) rfl _ rfl 513 (heap_alloc_at w35a (.cells (madeCells #[.string ⟨#[]⟩, .string ⟨#[]⟩, .int .i64 0, .int .i64 0, .int .i64 0, .int .i64 0, .int .i64 0, .int .i64 0, .bool false] (513 * 9)) 85))) (.inl rfl) kf36 rfl
    have hmk := make_p
    have HCC : Hid _ := Lib.hid (ask_cells K35a.out.a)
    obtain ⟨a0, a1, a2, a3, a4, a5, a6⟩ := ask_cells K35a.out.a
    have al := lt_of_heap K35a.out.a
    go_upto_region 41 with fail
    go_cut [34, 35] from 221 (fun lv ev wx => ∃ o n c, lv = .slice o n c ∧ ev = .int .i64 3 ∧ Hid (Kn w eb pb ab bb (yPol false 0 500) #[.string ⟨#[80, 110, 49, 59]⟩, .string ⟨#[80, 110, 52, 59]⟩, .int .i64 500, .int .i64 40, .int .i64 1000, .int .i64 100, .slice none 0 0] wx))
    case first =>
      go_region_held3 (fun W => Below w35a.heap.size w35a W ∧ W.cell? ⟨ab, 0, none⟩ = some (.string ⟨#[80, 110, 49, 59]⟩) ∧ W.cell? ⟨ab, 1, none⟩ = some (.string ⟨#[80, 110, 52, 59]⟩) ∧ W.cell? ⟨ab, 2, none⟩ = some (.int .i64 500) ∧ W.cell? ⟨ab, 3, none⟩ = some (.int .i64 40) ∧ W.cell? ⟨ab, 4, none⟩ = some (.int .i64 1000) ∧ W.cell? ⟨ab, 5, none⟩ = some (.int .i64 100) ∧ W.cell? ⟨ab, 6, none⟩ = some (.slice none 0 0))
        ((go_split_ands; exact keep7 (by repeat' (first | (with_reducible exact Below.refl _ _) | (with_reducible assumption) | (with_reducible refine Below.alloc ?_ ?_ _) | (with_reducible refine Below.drew ?_) | (with_reducible refine Below.setCell ?_ ?_ _) | (with_reducible refine bdN ?_ _) | assumption | go_size | (simp; omega))) HCC.out))
        ((go_at_call 39; (with_reducible refine Calls.mono HF.out ?_); rintro e36 w36a ⟨lo36, lc36, rfl, -, hk, hbx⟩; have K36a := Lib.hid hk; have hb36 := btr (below_new' w35a (.cells (madeCells #[.string ⟨#[]⟩, .string ⟨#[]⟩, .int .i64 0, .int .i64 0, .int .i64 0, .int .i64 0, .int .i64 0, .int .i64 0, .bool false] (513 * 9)) 85)).drew hbx; clear hk hbx))
      all_goals go_wp2_with fail
      all_goals go_meet
      all_goals exact ⟨_, _, _, rfl, rfl, K36a.out⟩
    case rest =>
      obtain ⟨lo36, ln36, lc36, rfl, rfl, K36a⟩ := hcut
      clear a0 a1 a2 a3 a4 a5 a6 al HF HCC hmk
      obtain ⟨w36a, rfl⟩ : ∃ q, q = wc := ⟨wc, rfl⟩
      have HF : Hid (Calls Tryd.prog 39 #[.slice (some ⟨eb, 0, none⟩) 4 4, .slice (some ⟨w36a.heap.size, 0, none⟩) 1 1, .agg #[.string ⟨#[80, 110, 49, 59]⟩, .string ⟨#[80, 110, 52, 59]⟩, .int .i64 500, .int .i64 40, .int .i64 1000, .int .i64 100, .slice none 0 0]] (w36a.alloc (.cells #[.string ⟨#[]⟩, .string ⟨#[]⟩, .int .i64 0, .int .i64 (-1), .int .i64 0, .int .i64 0, .int .i64 0, .int .i64 0, .bool false] 85)) (fun e w' => ∃ lo lc, e = .returned (.tuple #[.slice lo 0 lc, .int .i64 2]) ∧ RowsAt 4 hpC lo [] w' ∧ Kn w eb pb ab bb (yPol false 0 500) #[.string ⟨#[80, 110, 49, 59]⟩, .string ⟨#[80, 110, 52, 59]⟩, .int .i64 500, .int .i64 40, .int .i64 1000, .int .i64 100, .slice none 0 0] w' ∧ Below (w36a.alloc (.cells #[.string ⟨#[]⟩, .string ⟨#[]⟩, .int .i64 0, .int .i64 (-1), .int .i64 0, .int .i64 0, .int .i64 0, .int .i64 0, .bool false] 85)).heap.size (w36a.alloc (.cells #[.string ⟨#[]⟩, .string ⟨#[]⟩, .int .i64 0, .int .i64 (-1), .int .i64 0, .int .i64 0, .int .i64 0, .int .i64 0, .bool false] 85)) w')) := kn_find K36a.out (below_new' w36a (.cells #[.string ⟨#[]⟩, .string ⟨#[]⟩, .int .i64 0, .int .i64 (-1), .int .i64 0, .int .i64 0, .int .i64 0, .int .i64 0, .bool false] 85)) (HL.out.below (btr K36a.out.bel (below_new' w36a (.cells #[.string ⟨#[]⟩, .string ⟨#[]⟩, .int .i64 0, .int .i64 (-1), .int .i64 0, .int .i64 0, .int .i64 0, .int .i64 0, .bool false] 85)))) (some ⟨eb, 0, none⟩) xEdges 4 (some ⟨w36a.heap.size, 0, none⟩) [⟨⟨#[]⟩, ⟨#[]⟩, 0, -1, 0, 0, 0, 0, false⟩] 1 ⟨⟨#[80, 110, 49, 59]⟩, ⟨#[80, 110, 52, 59]⟩, 500, 40, 1000, 100, []⟩ none 0 (by decide) (by decide) (rows_of edgC_len ((K36a.out.next (below_new' w36a (.cells #[.string ⟨#[]⟩, .string ⟨#[]⟩, .int .i64 0, .int .i64 (-1), .int .i64 0, .int .i64 0, .int .i64 0, .int .i64 0, .bool false] 85))).e)) (rows_of (l := [⟨⟨#[]⟩, ⟨#[]⟩, 0, -1, 0, 0, 0, 0, false⟩]) plcC_len (heap_alloc_at w36a (.cells #[.string ⟨#[]⟩, .string ⟨#[]⟩, .int .i64 0, .int .i64 (-1), .int .i64 0, .int .i64 0, .int .i64 0, .int .i64 0, .bool false] 85))) (.inl rfl) kf37 rfl
      obtain ⟨a0, a1, a2, a3, a4, a5, a6⟩ := ask_cells K36a.out.a
      have al := lt_of_heap K36a.out.a
      go_upto_region 43 with (go_at_call 39; (with_reducible refine Calls.mono HF.out ?_); rintro e37 w37a ⟨lo37, lc37, rfl, -, hk, -⟩; have K37a := Lib.hid hk; clear hk)
      clear a0 a1 a2 a3 a4 a5 a6 al HF
      have HF : Hid (Calls Tryd.prog 39 #[.slice (some ⟨w37a.heap.size, 0, none⟩) 1 1, .slice (some ⟨pb, 0, none⟩) 3 3, .agg #[.string ⟨#[80, 110, 49, 59]⟩, .string ⟨#[80, 110, 52, 59]⟩, .int .i64 500, .int .i64 40, .int .i64 1000, .int .i64 100, .slice none 0 0]] (w37a.alloc (.cells #[.string ⟨#[]⟩, .string ⟨#[]⟩, .string ⟨#[]⟩, .int .i64 2100000000000001] 91)) (fun e w' => ∃ lo lc, e = .returned (.tuple #[.slice lo 0 lc, .int .i64 2]) ∧ RowsAt 4 hpC lo [] w' ∧ Kn w eb pb ab bb (yPol false 0 500) #[.string ⟨#[80, 110, 49, 59]⟩, .string ⟨#[80, 110, 52, 59]⟩, .int .i64 500, .int .i64 40, .int .i64 1000, .int .i64 100, .slice none 0 0] w' ∧ Below (w37a.alloc (.cells #[.string ⟨#[]⟩, .string ⟨#[]⟩, .string ⟨#[]⟩, .int .i64 2100000000000001] 91)).heap.size (w37a.alloc (.cells #[.string ⟨#[]⟩, .string ⟨#[]⟩, .string ⟨#[]⟩, .int .i64 2100000000000001] 91)) w')) := kn_find K37a.out (below_new' w37a (.cells #[.string ⟨#[]⟩, .string ⟨#[]⟩, .string ⟨#[]⟩, .int .i64 2100000000000001] 91)) (HL.out.below (btr K37a.out.bel (below_new' w37a (.cells #[.string ⟨#[]⟩, .string ⟨#[]⟩, .string ⟨#[]⟩, .int .i64 2100000000000001] 91)))) (some ⟨w37a.heap.size, 0, none⟩) [⟨⟨#[]⟩, ⟨#[]⟩, ⟨#[]⟩, 2100000000000001⟩] 1 (some ⟨pb, 0, none⟩) (yPol false 0 500) 3 ⟨⟨#[80, 110, 49, 59]⟩, ⟨#[80, 110, 52, 59]⟩, 500, 40, 1000, 100, []⟩ none 0 (by decide) (by decide) (rows_of (l := [⟨⟨#[]⟩, ⟨#[]⟩, ⟨#[]⟩, 2100000000000001⟩]) edgC_len (heap_alloc_at w37a (.cells #[.string ⟨#[]⟩, .string ⟨#[]⟩, .string ⟨#[]⟩, .int .i64 2100000000000001] 91))) (rows_of plcC_len ((K37a.out.next (below_new' w37a (.cells #[.string ⟨#[]⟩, .string ⟨#[]⟩, .string ⟨#[]⟩, .int .i64 2100000000000001] 91))).p)) (.inl rfl) kf38 rfl
      obtain ⟨a0, a1, a2, a3, a4, a5, a6⟩ := ask_cells K37a.out.a
      have al := lt_of_heap K37a.out.a
      go_upto_region 44 with (go_at_call 39; (with_reducible refine Calls.mono HF.out ?_); rintro e38 w38a ⟨lo38, lc38, rfl, -, hk, -⟩; have K38a := Lib.hid hk; clear hk)
      clear a0 a1 a2 a3 a4 a5 a6 al HF
      have hmk := make_s
      obtain ⟨a0, a1, a2, a3, a4, a5, a6⟩ := ask_cells K38a.out.a
      have al := lt_of_heap K38a.out.a
      have fz : (w38a.alloc (.cells (madeCells #[.string ⟨#[]⟩] (257 * 1)) 9)).frozen? ⟨ab, 6, none⟩ = false := by
        have hx := ((below_new' w38a (.cells (madeCells #[.string ⟨#[]⟩] (257 * 1)) 9)).block _ (lt_of_heap K38a.out.a)).trans K38a.out.a
        simp only [World.frozen?, hx]; rfl
      go_upto_region 45 with fail
      clear a0 a1 a2 a3 a4 a5 a6 al fz hmk
      have KS := Lib.hid ((Kn.setA K38a.out 6 (.slice (some ⟨w38a.heap.size, 0, none⟩) 257 257) (A' := #[.string ⟨#[80, 110, 49, 59]⟩, .string ⟨#[80, 110, 52, 59]⟩, .int .i64 500, .int .i64 40, .int .i64 1000, .int .i64 100, .slice (some ⟨w38a.heap.size, 0, none⟩) 257 257]) rfl).next (below_new' _ (.cells (madeCells #[.string ⟨#[]⟩] (257 * 1)) 9)))
      have BS : Hid (StrsAt (some ⟨w38a.heap.size, 0, none⟩) (List.replicate 257 (⟨#[]⟩ : ByteArray)) ((w38a.setCell ⟨ab, 6, none⟩ (.slice (some ⟨w38a.heap.size, 0, none⟩) 257 257)).alloc (.cells (madeCells #[.string ⟨#[]⟩] (257 * 1)) 9))) := strs_made 257 (by have := heap_alloc_at (w38a.setCell ⟨ab, 6, none⟩ (.slice (some ⟨w38a.heap.size, 0, none⟩) 257 257)) (.cells (madeCells #[.string ⟨#[]⟩] (257 * 1)) 9); simpa using this)
      generalize ((w38a.setCell ⟨ab, 6, none⟩ (.slice (some ⟨w38a.heap.size, 0, none⟩) 257 257)).alloc (.cells (madeCells #[.string ⟨#[]⟩] (257 * 1)) 9)) = w44 at KS BS ⊢
      generalize w38a.heap.size = mb at KS BS ⊢
      have HK : Hid (Calls Tryd.prog 40 #[.slice (some ⟨eb, 0, none⟩) 4 4, .slice (some ⟨pb, 0, none⟩) 3 3, .agg #[.string ⟨#[80, 110, 49, 59]⟩, .string ⟨#[80, 110, 52, 59]⟩, .int .i64 500, .int .i64 40, .int .i64 1000, .int .i64 100, .slice (some ⟨mb, 0, none⟩) 257 257], .slice none 0 0] w44 (CheckPost (false, 3) w44)) := kc ▸ check_any (some ⟨eb, 0, none⟩) xEdges 4 (some ⟨pb, 0, none⟩) (yPol false 0 500) 3 ⟨⟨#[80, 110, 49, 59]⟩, ⟨#[80, 110, 52, 59]⟩, 500, 40, 1000, 100, (List.replicate 257 (⟨#[]⟩ : ByteArray))⟩ (some ⟨mb, 0, none⟩) 257 none [] 0 w44 (by decide) (by decide) (HL.out.below KS.out.bel) (rows_of edgC_len KS.out.e) (rows_of plcC_len KS.out.p) BS.out (.inl rfl) (fun h hh => by cases hh)
      unfold CheckPost at HK
      obtain ⟨a0, a1, a2, a3, a4, a5, a6⟩ := ask_cells KS.out.a
      have al := lt_of_heap KS.out.a
      go_upto_region 46 with (go_at_call 40; (with_reducible refine Calls.mono HK.out ?_); rintro e45 w45 ⟨rfl, hb⟩; have B45 := Lib.hid (btr KS.out.bel hb); clear hb)
      clear a0 a1 a2 a3 a4 a5 a6 al HK BS KS
      go_upto_region 47 with fail
      go_wp2_with (first
        | (go_at_call 45; (with_reducible refine Calls.mono (fee1 _) ?_); rintro e47 w47 ⟨rfl, hb⟩; have B47 := Lib.hid (btr B45.out hb); clear hb)
        | (go_at_call 45; (with_reducible refine Calls.mono (fee2 _) ?_); rintro e48 w48 ⟨rfl, hb⟩; have B48 := Lib.hid (btr B47.out hb); clear hb)
        | (go_at_call 46; (with_reducible refine Calls.mono (long_any _ (HL.out.below B48.out)) ?_); rintro e49 w49 ⟨rfl, hb⟩; have B49 := Lib.hid (btr B48.out hb); clear hb)
        | (go_at_call 38; (with_reducible refine Calls.mono (works_r _ (HL.out.below B49.out)) ?_); rintro e50 w50 ⟨rfl, hb⟩; have B50 := Lib.hid (btr B49.out hb); clear hb))
      go_ret
      exact ⟨rfl, B50.out⟩
end Go.Proofs.YtbdimlppnhcicaaDoor
