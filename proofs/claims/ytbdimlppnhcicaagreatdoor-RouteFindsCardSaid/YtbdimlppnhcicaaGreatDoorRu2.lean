import Derived.Deep.CutBlock
import Derived.Deep.RegionHeld3
import Derived.StillTailTactics
import Derived.Lib.ParseIntB
import Derived.Lib.Bytealg
import Derived.Lib.ItoaNum
import Derived.Lib.ParseIntBCases
import Derived.Shelf.Strings.Builder1
import Derived.Shelf.Small.Bits
import Derived.Shelf.Small.Strs
import Derived.Shelf.Small.Wraps
import Derived.Shelf.Strings.BuilderF
import Derived.Shelf.Strings.BuilderK
import Derived.Shelf.Strconv.Itoa0
import Derived.Shelf.Strconv.Itoa1
import Derived.Shelf.LaysM
import Derived.Shelf.Strconv.Itoa2
import Derived.Shelf.Strconv.Itoa3
import Derived.Shelf.Strconv.Itoa4
import Derived.Shelf.Strconv.ParseIntEmpty
import Derived.Shelf.Strconv.Clone
import Derived.Shelf.Strconv.SyntaxError
import Derived.Shelf.LaysC
import Derived.Shelf.Strconv.ToError
import Derived.Shelf.Strconv.Lower
import Derived.Shelf.Strconv.ParseUint10
import Derived.Shelf.Strconv.ParseUint10Empty
import Derived.Shelf.Strconv.ParseUint10Any
import Derived.Shelf.Strconv.ParseInt10
import Derived.Shelf.Strconv.RangeError
import Derived.Shelf.Strconv.ToErrorRange
import Derived.Shelf.Strconv.ParseUintEmpty
import Derived.Shelf.Strconv.ParseUint10b64
import Derived.Shelf.Strconv.ParseUint10b32
import Derived.Shelf.Strconv.ParseUint10b16
import Derived.Shelf.Strconv.ParseUint10b8
import Derived.Shelf.Strconv.ParseUint10At
import Derived.Shelf.Strconv.ParseInt10At64
import Derived.Shelf.Strconv.ParseInt10At32
import Derived.Shelf.Strconv.ParseInt10At16
import Derived.Shelf.Strconv.ParseInt10At8
import Derived.Shelf.Strconv.ParseInt10All
import Derived.Shelf.Strconv.ParseIntPublic10
import Derived.Shelf.Strconv.ErrVarParseInt
import Derived.Shelf.Strings.Search1
import Derived.Shelf.Bits.Mul64
import Derived.Shelf.Strings.BuilderCap
import Derived.Ground.Names2Prog
import Derived.Shelf.Slices.Clone
import Derived.Shelf.Slices.SearchI
import Derived.Ground.SlgnProg
import Derived.Shelf.SlicesE.Clone
import Derived.WalkKit
import Derived.WalkSpells
import Derived.WalkLawsBesides
import Derived.Handy
import Derived.Lib.Hide
import Derived.Deep.QuietTactic
import Derived.BigQuiet
import Derived.Lib.Strings
import Derived.Lib.IndexBytes
import Derived.BigRegion
import Derived.Deep.RegionLaw
import Derived.Deep.AppendLies
import Derived.Deep.LoopGhost
import Derived.Deep.Onto
import Derived.Deep.WholeRow
import Derived.Deep.CutRange
import Derived.Laws.CopyOwn
import Derived.Lib.ItoaLen
import Derived.Lib.AppendIntMem
import Derived.Deep.MidRow
import Derived.Deep.RegionHeld
import Derived.Outline
import Derived.Laws.Tables
import Derived.Laws.MakeOwn
import Derived.Laws.OwnMore
import Derived.WalkMore
import Derived.MapKept
import Derived.Carry
import Derived.Test.YtbdimlppnhcicaaGreatDoorRows
import Derived.Test.YtbdimlppnhcicaaGreatDoorProg
import Derived.Test.YtbdimlppnhcicaaGreatDoorNu
import Derived.Test.YtbdimlppnhcicaaGreatDoorTa
import Derived.Test.YtbdimlppnhcicaaGreatDoorRa
import Derived.Test.YtbdimlppnhcicaaGreatDoorRg
import Derived.Test.YtbdimlppnhcicaaGreatDoorBa
import Derived.Test.YtbdimlppnhcicaaGreatDoorWg
import Derived.Test.YtbdimlppnhcicaaGreatDoorSo
import Derived.Test.YtbdimlppnhcicaaGreatDoorOnA
import Derived.Test.YtbdimlppnhcicaaGreatDoorOe
import Derived.Test.YtbdimlppnhcicaaGreatDoorMny
import Derived.Test.YtbdimlppnhcicaaGreatDoorRo1
import Derived.Test.YtbdimlppnhcicaaGreatDoorOf
import Derived.Test.YtbdimlppnhcicaaGreatDoorOh
import Derived.Test.YtbdimlppnhcicaaGreatDoorOj
import Derived.Test.YtbdimlppnhcicaaGreatDoorRo2
import Derived.Test.YtbdimlppnhcicaaGreatDoorRo3
import Derived.Test.YtbdimlppnhcicaaGreatDoorRo4
import Derived.Test.YtbdimlppnhcicaaGreatDoorRo5
import Derived.Test.YtbdimlppnhcicaaGreatDoorRo7
import Derived.Test.YtbdimlppnhcicaaGreatDoorRo6
import Derived.Test.YtbdimlppnhcicaaGreatDoorRo8
import Derived.Test.YtbdimlppnhcicaaGreatDoorRtZ
import Derived.Test.YtbdimlppnhcicaaGreatDoorRu1
namespace Go.Proofs.YtbdimlppnhcicaaGreatDoor
set_option linter.unusedVariables false
open Go.RowKit Rte
/-! route: how much is looked at -/
def netV (oe : Option Addr) (el ce : Nat) (op : Option Addr) (pl cp : Nat) : Value := .agg #[.slice oe el ce, .slice op pl cp]
def LargeR (E : List Edg) (P : List Plc) (bad : List ByteArray) (l : List Hp) (w : World) (e : Ending) (w' : World) : Prop := ∃ b, e = .returned (.bool b) ∧ (b = false → E.length ≤ 300 ∧ P.length ≤ 600 ∧ bad.length ≤ 300 ∧ l.length ≤ 40) ∧ Below w.heap.size w w'
/-- strings are no longer than a call's arguments may be -/
structure FitR (E : List Edg) (P : List Plc) (A : AskR) (l : List Hp) : Prop where
  e : ∀ x ∈ E, x.chan.size ≤ 140737488351232 ∧ x.a.size ≤ 140737488351232 ∧ x.b.size ≤ 140737488351232
  p : ∀ x ∈ P, x.chan.size ≤ 140737488351232 ∧ x.frm.size ≤ 140737488351232
  b : ∀ x ∈ A.bad, x.size ≤ 140737488351232
  h : ∀ x ∈ l, x.chan.size ≤ 140737488351232 ∧ x.node.size ≤ 140737488351232
  f : A.frm.size ≤ 140737488351232 ∧ A.dst.size ≤ 140737488351232
  el : E.length ≤ 9223372036854775807
  pl : P.length ≤ 9223372036854775807
  bl : A.bad.length ≤ 9223372036854775807
  hl : l.length ≤ 9223372036854775807
theorem str_at {o : Option Addr} {l : List ByteArray} {w : World} {i : Nat} {s : ByteArray} (h : StrsAt o l w) (hs : l[i]? = some s) : ∃ b off, o = some ⟨b, off, none⟩ ∧ w.cell? ⟨b, off + i, none⟩ = some (.string s) := by
  obtain ⟨b, off, e, hc⟩ := h.resolve_left (by intro h0; rw [h0] at hs; simp at hs)
  exact ⟨b, off, e, hc i s hs⟩
set_option maxRecDepth 100000 in
set_option maxHeartbeats 8000000 in
theorem large_r (oe : Option Addr) (E : List Edg) (ce : Nat) (op : Option Addr) (P : List Plc) (cp : Nat) (A : AskR) (ob : Option Addr) (cb : Nat) (ol : Option Addr) (l : List Hp) (cl : Nat) (w : World)
    (hE : RowsAt 4 edgC oe E w) (hP : RowsAt 9 plcC op P w) (hB : StrsAt ob A.bad w) (hl : RowsAt 4 hpC ol l w) (hf : FitR E P A l) : Calls Tryz.prog 18 #[netV oe E.length ce op P.length cp, askV A ob cb, .slice ol l.length cl] w (LargeR E P A.bad l w) := by
  have HE := Lib.hid hE; have HP := Lib.hid hP; have HB := Lib.hid hB; have HL := Lib.hid hl; have HF := Lib.hid hf
  obtain ⟨af, ad, aa, ax, al, ae, bad⟩ := A
  have hfs := hf.f
  have hel := hf.el; have hpl := hf.pl; have hbl := hf.bl; have hhl := hf.hl
  dsimp only at hfs hbl
  have hfi : (af.size : Int) ≤ 140737488351232 := by omega
  have hdi : (ad.size : Int) ≤ 140737488351232 := by omega
  have heli : (E.length : Int) ≤ 9223372036854775807 := by omega
  have hpli : (P.length : Int) ≤ 9223372036854775807 := by omega
  have hbli : (bad.length : Int) ≤ 9223372036854775807 := by omega
  have hhli : (l.length : Int) ≤ 9223372036854775807 := by omega
  unfold askV netV
  dsimp only
  clear hE hP hB hl hf hfs hel hpl hbl hhl
  go_enter Tryz.func18, Tryz.ntmps18
  go_upto_block 0 with fail
  have hb2 : Below w.heap.size w ((w.alloc (.cells #[.slice oe E.length ce, .slice op P.length cp] 36)).alloc (.cells #[.string af, .string ad, .int .i64 aa, .int .i64 ax, .int .i64 al, .int .i64 ae, .slice ob bad.length cb] 39)) := ((Below.refl _ _).alloc (Nat.le_refl _) _).alloc (by simp) _
  have k0 : ((w.alloc (.cells #[.slice oe E.length ce, .slice op P.length cp] 36)).alloc (.cells #[.string af, .string ad, .int .i64 aa, .int .i64 ax, .int .i64 al, .int .i64 ae, .slice ob bad.length cb] 39)).heap[w.heap.size]? = some (.cells #[.slice oe E.length ce, .slice op P.length cp] 36 (0, 0)) := (heap_alloc_old _ _ (by simp)).trans (heap_alloc_at w _)
  have k1 : ((w.alloc (.cells #[.slice oe E.length ce, .slice op P.length cp] 36)).alloc (.cells #[.string af, .string ad, .int .i64 aa, .int .i64 ax, .int .i64 al, .int .i64 ae, .slice ob bad.length cb] 39)).heap[w.heap.size + 1]? = some (.cells #[.string af, .string ad, .int .i64 aa, .int .i64 ax, .int .i64 al, .int .i64 ae, .slice ob bad.length cb] 39 (0, 0)) := by
    have := heap_alloc_at (w.alloc (.cells #[.slice oe E.length ce, .slice op P.length cp] 36)) (.cells #[.string af, .string ad, .int .i64 aa, .int .i64 ax, .int .i64 al, .int .i64 ae, .slice ob bad.length cb] 39)
    simpa using this
  generalize ((w.alloc (.cells #[.slice oe E.length ce, .slice op P.length cp] 36)).alloc (.cells #[.string af, .string ad, .int .i64 aa, .int .i64 ax, .int .i64 al, .int .i64 ae, .slice ob bad.length cb] 39)) = w2 at hb2 k0 k1 ⊢
  have N0 : Hid (w2.cell? ⟨w.heap.size, 0, none⟩ = some (.slice oe E.length ce)) := by show _ = _; rw [cell_of_row _ _ _ _ _ _ k0]; rfl
  have N1 : Hid (w2.cell? ⟨w.heap.size, 1, none⟩ = some (.slice op P.length cp)) := by show _ = _; rw [cell_of_row _ _ _ _ _ _ k0]; rfl
  have A6 : Hid (w2.cell? ⟨w.heap.size + 1, 6, none⟩ = some (.slice ob bad.length cb)) := by show _ = _; rw [cell_of_row _ _ _ _ _ _ k1]; rfl
  have HB2 := Lib.hid hb2
  clear k0 k1 hb2
  have hn0 : 0 ≤ (af.size : Int) + (ad.size : Int) := by omega
  have hn1 : (af.size : Int) + (ad.size : Int) ≤ 1000000000000000 := by omega
  generalize (af.size : Int) + (ad.size : Int) = n0 at hn0 hn1 ⊢
  go_cut [7, 8] from 19 to 54 (fun nv iv wx => ∃ n : Int, nv = .int .i64 n ∧ 0 ≤ n ∧ n ≤ 1000000000000000 ∧ Hid (Below w2.heap.size w2 wx))
  case first =>
    go_wp2_with fail
    go_loopw [7, 8] (fun nv iv wr => ∃ (i : Nat) (n : Int), i ≤ E.length ∧ iv = .int .i64 i ∧ nv = .int .i64 n ∧ 0 ≤ n ∧ n ≤ 1000000000000000 ∧ Hid (Below w2.heap.size w2 wr)) (fun _ iv _ => E.length - (intOf iv).toNat)
    case atStart => exact ⟨0, n0, Nat.zero_le _, rfl, rfl, hn0, hn1, Below.refl _ _⟩
    case round =>
      clear hn0 hn1
      obtain ⟨i, n, hi, rfl, rfl, hm0, hm1, hBw⟩ := hrel
      have b0 := cell_later' hBw.out N0.out
      have b1 := cell_later' hBw.out N1.out
      have b6 := cell_later' hBw.out A6.out
      by_cases hlt : i < E.length
      · have hii : (i : Int) < (E.length : Int) := by omega
        by_cases hn : n ≤ 30000
        · obtain ⟨e, he⟩ : ∃ e, E[i]? = some e := ⟨_, List.getElem?_eq_getElem hlt⟩
          obtain ⟨eb, eo, rfl, hc⟩ := rows_at (HE.out.below HB2.out) he
          have z0 : wr.cell? ⟨eb, eo + i * 4, none⟩ = some (.string e.chan) := cell_later' hBw.out (hc 0 _ rfl)
          have z1 : wr.cell? ⟨eb, eo + i * 4 + 1, none⟩ = some (.string e.a) := cell_later' hBw.out (hc 1 _ rfl)
          have z2 : wr.cell? ⟨eb, eo + i * 4 + 2, none⟩ = some (.string e.b) := cell_later' hBw.out (hc 2 _ rfl)
          obtain ⟨s0, s1, s2⟩ := HF.out.e e (List.mem_of_getElem? he)
          have t0 : (e.chan.size : Int) ≤ 140737488351232 := by omega
          have t1 : (e.a.size : Int) ≤ 140737488351232 := by omega
          have t2 : (e.b.size : Int) ≤ 140737488351232 := by omega
          clear hc he s0 s1 s2
          go_wp2_with fail
          go_quiet (fail)
          go_wp2_with fail
          go_roundw
          case rel => exact ⟨i + 1, _, hlt, by go_num, rfl, by omega, by omega, bdN hBw.out _⟩
          case measure => simp only [intOf]; omega
        · have q1 : decide (n ≤ 30000) = false := decide_eq_false hn
          have hn' : 30000 < n := by omega
          go_wp2_with fail
          go_meet
          exact ⟨n, rfl, hm0, hm1, hBw.out⟩
      · have hii : ¬ ((i : Int) < (E.length : Int)) := by omega
        go_wp2_with fail
        go_meet
        exact ⟨n, rfl, hm0, hm1, hBw.out⟩
  case rest =>
    clear hn0 hn1
    obtain ⟨n8, rfl, hn0, hn1, HBw8⟩ := hcut
    obtain ⟨wd8, rfl⟩ : ∃ q, q = wc := ⟨wc, rfl⟩
    have b0 := cell_later' HBw8.out N0.out
    go_upto_block 2 with fail
    go_cut [7, 9] from 55 to 82 (fun nv iv wx => ∃ n : Int, nv = .int .i64 n ∧ 0 ≤ n ∧ n ≤ 1000000000000000 ∧ Hid (Below w2.heap.size w2 wx))
    case first =>
      go_wp2_with fail
      go_loopw [7, 9] (fun nv iv wr => ∃ (i : Nat) (n : Int), i ≤ P.length ∧ iv = .int .i64 i ∧ nv = .int .i64 n ∧ 0 ≤ n ∧ n ≤ 1000000000000000 ∧ Hid (Below w2.heap.size w2 wr)) (fun _ iv _ => P.length - (intOf iv).toNat)
      case atStart => exact ⟨0, n8, Nat.zero_le _, rfl, rfl, hn0, hn1, HBw8.out⟩
      case round =>
        clear hn0 hn1
        obtain ⟨i, n, hi, rfl, rfl, hm0, hm1, hBw⟩ := hrel
        have b0 := cell_later' hBw.out N0.out
        have b1 := cell_later' hBw.out N1.out
        have b6 := cell_later' hBw.out A6.out
        by_cases hlt : i < P.length
        · have hii : (i : Int) < (P.length : Int) := by omega
          by_cases hn : n ≤ 30000
          · obtain ⟨p, hp⟩ : ∃ p, P[i]? = some p := ⟨_, List.getElem?_eq_getElem hlt⟩
            obtain ⟨eb, eo, rfl, hc⟩ := rows_at (HP.out.below HB2.out) hp
            have z0 : wr.cell? ⟨eb, eo + i * 9, none⟩ = some (.string p.chan) := cell_later' hBw.out (hc 0 _ rfl)
            have z1 : wr.cell? ⟨eb, eo + i * 9 + 1, none⟩ = some (.string p.frm) := cell_later' hBw.out (hc 1 _ rfl)
            obtain ⟨s0, s1⟩ := HF.out.p p (List.mem_of_getElem? hp)
            have t0 : (p.chan.size : Int) ≤ 140737488351232 := by omega
            have t1 : (p.frm.size : Int) ≤ 140737488351232 := by omega
            clear hc hp s0 s1
            go_wp2_with fail
            go_quiet (fail)
            go_wp2_with fail
            go_roundw
            case rel => exact ⟨i + 1, _, hlt, by go_num, rfl, by omega, by omega, bdN hBw.out _⟩
            case measure => simp only [intOf]; omega
          · have q1 : decide (n ≤ 30000) = false := decide_eq_false hn
            have hn' : 30000 < n := by omega
            go_wp2_with fail
            go_meet
            exact ⟨n, rfl, hm0, hm1, hBw.out⟩
        · have hii : ¬ ((i : Int) < (P.length : Int)) := by omega
          go_wp2_with fail
          go_meet
          exact ⟨n, rfl, hm0, hm1, hBw.out⟩
    case rest =>
      clear hn0 hn1
      obtain ⟨n9, rfl, hn0, hn1, HBw9⟩ := hcut
      obtain ⟨wd9, rfl⟩ : ∃ q, q = wc := ⟨wc, rfl⟩
      go_upto_block 4 with fail
      go_cut [7, 10] from 83 to 101 (fun nv iv wx => ∃ n : Int, nv = .int .i64 n ∧ 0 ≤ n ∧ n ≤ 1000000000000000 ∧ Hid (Below w2.heap.size w2 wx))
      case first =>
        go_wp2_with fail
        go_loopw [7, 10] (fun nv iv wr => ∃ (i : Nat) (n : Int), i ≤ bad.length ∧ iv = .int .i64 i ∧ nv = .int .i64 n ∧ 0 ≤ n ∧ n ≤ 1000000000000000 ∧ Hid (Below w2.heap.size w2 wr)) (fun _ iv _ => bad.length - (intOf iv).toNat)
        case atStart => exact ⟨0, n9, Nat.zero_le _, rfl, rfl, hn0, hn1, HBw9.out⟩
        case round =>
          clear hn0 hn1
          obtain ⟨i, n, hi, rfl, rfl, hm0, hm1, hBw⟩ := hrel
          have b0 := cell_later' hBw.out N0.out
          have b1 := cell_later' hBw.out N1.out
          have b6 := cell_later' hBw.out A6.out
          by_cases hlt : i < bad.length
          · have hii : (i : Int) < (bad.length : Int) := by omega
            by_cases hn : n ≤ 30000
            · obtain ⟨s, hs⟩ : ∃ s, bad[i]? = some s := ⟨_, List.getElem?_eq_getElem hlt⟩
              obtain ⟨eb, eo, rfl, hc⟩ := str_at (HB.out.below HB2.out) hs
              have z0 : wr.cell? ⟨eb, eo + i, none⟩ = some (.string s) := cell_later' hBw.out hc
              have s0 := HF.out.b s (List.mem_of_getElem? hs)
              have t0 : (s.size : Int) ≤ 140737488351232 := by omega
              clear hc hs s0
              go_wp2_with fail
              go_roundw
              case rel => exact ⟨i + 1, _, hlt, by go_num, rfl, by omega, by omega, hBw.out⟩
              case measure => simp only [intOf]; omega
            · have q1 : decide (n ≤ 30000) = false := decide_eq_false hn
              have hn' : 30000 < n := by omega
              go_wp2_with fail
              go_meet
              exact ⟨n, rfl, hm0, hm1, hBw.out⟩
          · have hii : ¬ ((i : Int) < (bad.length : Int)) := by omega
            go_wp2_with fail
            go_meet
            exact ⟨n, rfl, hm0, hm1, hBw.out⟩
      case rest =>
        clear hn0 hn1
        obtain ⟨n10, rfl, hn0, hn1, HBw10⟩ := hcut
        obtain ⟨wd10, rfl⟩ : ∃ q, q = wc := ⟨wc, rfl⟩
        go_upto_block 6 with fail
        go_cut [7, 11] from 102 to 126 (fun nv iv wx => ∃ n : Int, nv = .int .i64 n ∧ 0 ≤ n ∧ n ≤ 1000000000000000 ∧ Hid (Below w2.heap.size w2 wx))
        case first =>
          go_wp2_with fail
          go_loopw [7, 11] (fun nv iv wr => ∃ (i : Nat) (n : Int), i ≤ l.length ∧ iv = .int .i64 i ∧ nv = .int .i64 n ∧ 0 ≤ n ∧ n ≤ 1000000000000000 ∧ Hid (Below w2.heap.size w2 wr)) (fun _ iv _ => l.length - (intOf iv).toNat)
          case atStart => exact ⟨0, n10, Nat.zero_le _, rfl, rfl, hn0, hn1, HBw10.out⟩
          case round =>
            clear hn0 hn1
            obtain ⟨i, n, hi, rfl, rfl, hm0, hm1, hBw⟩ := hrel
            have b0 := cell_later' hBw.out N0.out
            have b1 := cell_later' hBw.out N1.out
            have b6 := cell_later' hBw.out A6.out
            by_cases hlt : i < l.length
            · have hii : (i : Int) < (l.length : Int) := by omega
              by_cases hn : n ≤ 30000
              · obtain ⟨p, hp⟩ : ∃ p, l[i]? = some p := ⟨_, List.getElem?_eq_getElem hlt⟩
                obtain ⟨eb, eo, rfl, hc⟩ := rows_at (HL.out.below HB2.out) hp
                have z0 : wr.cell? ⟨eb, eo + i * 4, none⟩ = some (.string p.chan) := cell_later' hBw.out (hc 0 _ rfl)
                have z1 : wr.cell? ⟨eb, eo + i * 4 + 1, none⟩ = some (.string p.node) := cell_later' hBw.out (hc 1 _ rfl)
                obtain ⟨s0, s1⟩ := HF.out.h p (List.mem_of_getElem? hp)
                have t0 : (p.chan.size : Int) ≤ 140737488351232 := by omega
                have t1 : (p.node.size : Int) ≤ 140737488351232 := by omega
                clear hc hp s0 s1
                go_wp2_with fail
                go_quiet (fail)
                go_wp2_with fail
                go_roundw
                case rel => exact ⟨i + 1, _, hlt, by go_num, rfl, by omega, by omega, bdN hBw.out _⟩
                case measure => simp only [intOf]; omega
              · have q1 : decide (n ≤ 30000) = false := decide_eq_false hn
                have hn' : 30000 < n := by omega
                go_wp2_with fail
                go_meet
                exact ⟨n, rfl, hm0, hm1, hBw.out⟩
            · have hii : ¬ ((i : Int) < (l.length : Int)) := by omega
              go_wp2_with fail
              go_meet
              exact ⟨n, rfl, hm0, hm1, hBw.out⟩
        case rest =>
          clear hn0 hn1
          obtain ⟨n11, rfl, hn0, hn1, HBw11⟩ := hcut
          obtain ⟨wd11, rfl⟩ : ∃ q, q = wc := ⟨wc, rfl⟩
          have b0 := cell_later' HBw11.out N0.out
          have b1 := cell_later' HBw11.out N1.out
          have b6 := cell_later' HBw11.out A6.out
          by_cases g0 : 30000 < n11
          · go_wp2_with fail
            go_ret
            exact ⟨true, rfl, (fun h => by cases h), btr HB2.out HBw11.out⟩
          · have d0 : decide (30000 < n11) = false := decide_eq_false g0
            have e0 : n11 ≤ 30000 := by omega
            by_cases g1 : (300 : Int) < (E.length : Int)
            · go_wp2_with fail
              go_ret
              exact ⟨true, rfl, (fun h => by cases h), btr HB2.out HBw11.out⟩
            · have d1 : decide ((300 : Int) < (E.length : Int)) = false := decide_eq_false g1
              have e1 : (E.length : Int) ≤ 300 := by omega
              by_cases g2 : (600 : Int) < (P.length : Int)
              · go_wp2_with fail
                go_ret
                exact ⟨true, rfl, (fun h => by cases h), btr HB2.out HBw11.out⟩
              · have d2 : decide ((600 : Int) < (P.length : Int)) = false := decide_eq_false g2
                have e2 : (P.length : Int) ≤ 600 := by omega
                by_cases g3 : (300 : Int) < (bad.length : Int)
                · go_wp2_with fail
                  go_ret
                  exact ⟨true, rfl, (fun h => by cases h), btr HB2.out HBw11.out⟩
                · have d3 : decide ((300 : Int) < (bad.length : Int)) = false := decide_eq_false g3
                  have e3 : (bad.length : Int) ≤ 300 := by omega
                  by_cases g4 : (40 : Int) < (l.length : Int)
                  · go_wp2_with fail
                    go_ret
                    exact ⟨true, rfl, (fun h => by cases h), btr HB2.out HBw11.out⟩
                  · have d4 : decide ((40 : Int) < (l.length : Int)) = false := decide_eq_false g4
                    have e4 : (l.length : Int) ≤ 40 := by omega
                    have HX : Hid (E.length ≤ 300 ∧ P.length ≤ 600 ∧ bad.length ≤ 300 ∧ l.length ≤ 40) := ⟨by omega, by omega, by omega, by omega⟩
                    clear g0 g1 g2 g3 g4
                    go_wp2_with fail
                    go_ret
                    exact ⟨false, rfl, fun _ => HX.out, btr HB2.out HBw11.out⟩
end Go.Proofs.YtbdimlppnhcicaaGreatDoor
namespace Go.Proofs.YtbdimlppnhcicaaGreatDoor
set_option linter.unusedVariables false
open Go.RowKit Rte
/-! route: the examples' net, rows compared, works -/
set_option maxRecDepth 100000 in
set_option maxHeartbeats 4000000 in
theorem same_yes (l : List Hp) (o1 : Option Addr) (c1 : Nat) (o2 : Option Addr) (c2 : Nat) (w : World) (h1 : RowsAt 4 hpC o1 l w) (h2 : RowsAt 4 hpC o2 l w) (hn : l.length ≤ 1000) : Calls Tryz.prog 23 #[.slice o1 l.length c1, .slice o2 l.length c2] w fun e w' => e = .returned (.bool true) ∧ Below w.heap.size w w' := by
  have H1 := Lib.hid h1; have H2 := Lib.hid h2; have HN := Lib.hid hn
  have e1 : ((l.length : Int) != (l.length : Int)) = false := by simp
  clear h1 h2 hn
  go_enter Tryz.func23, Tryz.ntmps23
  go_wp2_with fail
  go_loopw [5] (fun iv wr => ∃ i : Nat, i ≤ l.length ∧ iv = .int .i64 i ∧ Hid (Below w.heap.size w wr)) (fun iv _ => l.length - (intOf iv).toNat)
  case atStart => exact ⟨0, Nat.zero_le _, rfl, Below.refl _ _⟩
  case round =>
    obtain ⟨i, hi, rfl, hB⟩ := hrel
    have hn := HN.out
    by_cases hlt : i < l.length
    · obtain ⟨x, hx⟩ : ∃ x, l[i]? = some x := ⟨_, List.getElem?_eq_getElem hlt⟩
      obtain ⟨b1, f1, rfl, hc1⟩ := rows_at H1.out hx
      obtain ⟨b2, f2, rfl, hc2⟩ := rows_at H2.out hx
      have r0 : wr.cell? ⟨b1, f1 + i * 4, none⟩ = some (.string x.chan) := cell_later' hB.out (hc1 0 _ rfl)
      have r1 : wr.cell? ⟨b1, f1 + i * 4 + 1, none⟩ = some (.string x.node) := cell_later' hB.out (hc1 1 _ rfl)
      have r2 : wr.cell? ⟨b1, f1 + i * 4 + 2, none⟩ = some (.int .i64 x.amt) := cell_later' hB.out (hc1 2 _ rfl)
      have r3 : wr.cell? ⟨b1, f1 + i * 4 + 3, none⟩ = some (.int .i64 x.exp) := cell_later' hB.out (hc1 3 _ rfl)
      have q0 : wr.cell? ⟨b2, f2 + i * 4, none⟩ = some (.string x.chan) := cell_later' hB.out (hc2 0 _ rfl)
      have q1 : wr.cell? ⟨b2, f2 + i * 4 + 1, none⟩ = some (.string x.node) := cell_later' hB.out (hc2 1 _ rfl)
      have q2 : wr.cell? ⟨b2, f2 + i * 4 + 2, none⟩ = some (.int .i64 x.amt) := cell_later' hB.out (hc2 2 _ rfl)
      have q3 : wr.cell? ⟨b2, f2 + i * 4 + 3, none⟩ = some (.int .i64 x.exp) := cell_later' hB.out (hc2 3 _ rfl)
      have hii : (i : Int) < (l.length : Int) := by omega
      have hii2 : (l.length : Int) ≤ 1000 := by omega
      clear hc1 hc2 hx
      go_wp2_with fail
      go_quiet (fail)
      go_wp2_with fail
      go_roundw
      case rel => exact ⟨i + 1, hlt, by go_num, bdN hB.out _⟩
      case measure => simp [intOf]; omega
    · obtain rfl : i = l.length := by omega
      clear hi hlt hn
      go_wp2_with fail
      go_ret
      exact ⟨rfl, hB.out⟩
def pnS (a : ByteArray) : ByteArray := ⟨#[80, 110]⟩ ++ a ++ ⟨#[59]⟩
theorem pn_run (a : ByteArray) (h : a.size ≤ 1000) : ∀ w : World, (Op.stringOp .add ⟨#[80, 110]⟩ a).run Tryz.prog w = .ok (.string (⟨#[80, 110]⟩ ++ a)) w := fun w => cat_any _ _ (by show 2 + a.size ≤ _; omega) w
theorem pn_run2 (a : ByteArray) (h : a.size ≤ 1000) : ∀ w : World, (Op.stringOp .add (⟨#[80, 110]⟩ ++ a) ⟨#[59]⟩).run Tryz.prog w = .ok (.string (pnS a)) w := fun w => cat_any _ _ (by rw [ByteArray.size_append]; show 2 + a.size + 1 ≤ _; omega) w
set_option maxRecDepth 100000 in
set_option maxHeartbeats 4000000 in
theorem edge_r (n a b : ByteArray) (w : World) (ha : a.size ≤ 1000) (hb : b.size ≤ 1000) : Calls Tryz.prog 130 #[.string n, .string a, .string b] w fun e w' => e = .returned (.agg #[.string n, .string (pnS a), .string (pnS b), .int .i64 1000]) ∧ Below w.heap.size w w' := by
  have c0 := pn_run a ha; have c1 := pn_run2 a ha; have c2 := pn_run b hb; have c3 := pn_run2 b hb
  have hk := heap_alloc_at w (.cells #[.string ⟨#[]⟩, .string ⟨#[]⟩, .string ⟨#[]⟩, .int .i64 0] 51)
  have HK := Lib.hid hk
  clear ha hb hk
  go_enter Tryz.func130, Tryz.ntmps130
  go_wp2_with (with_reducible refine wpList_store_row rfl 51 (.tmp 6) (.tmp 14) rfl w.heap.size #[.string n, .string (pnS a), .string (pnS b), .int .i64 1000] rfl rfl 51 _ HK.out (by kernel_rfl) rfl (by simp [Value.oneCell']) ?_)
  have hl := run_loadVar_row (P := Tryz.prog) ((w.alloc (.cells #[.string ⟨#[]⟩, .string ⟨#[]⟩, .string ⟨#[]⟩, .int .i64 0] 51)).setRow w.heap.size #[.string n, .string (pnS a), .string (pnS b), .int .i64 1000]) w.heap.size 51 51 #[.string n, .string (pnS a), .string (pnS b), .int .i64 1000] (0, 0) _ (setRow_heap _ w.heap.size _ _ 51 _ HK.out) Tryz.underlying51 rfl (by kernel_rfl)
  refine bodyPost_ret (results_cell1 Tryz.results130 _ _ _ rfl hl) rfl ⟨rfl, below_setRow (below_new' _ _) (Nat.le_refl _) _⟩
set_option maxRecDepth 100000 in
set_option maxHeartbeats 4000000 in
theorem policy_r (n a : ByteArray) (w : World) (ha : a.size ≤ 1000) : Calls Tryz.prog 131 #[.string n, .string a] w fun e w' => e = .returned (.agg #[.string n, .string (pnS a), .int .i64 0, .int .i64 10, .int .i64 0, .int .i64 5, .int .i64 0, .int .i64 1000000, .bool false]) ∧ Below w.heap.size w w' := by
  have c0 := pn_run a ha; have c1 := pn_run2 a ha
  have hk := heap_alloc_at w (.cells #[.string ⟨#[]⟩, .string ⟨#[]⟩, .int .i64 0, .int .i64 0, .int .i64 0, .int .i64 0, .int .i64 0, .int .i64 0, .bool false] 53)
  have HK := Lib.hid hk
  clear ha hk
  go_enter Tryz.func131, Tryz.ntmps131
  go_wp2_with (with_reducible refine wpList_store_row rfl 53 (.tmp 4) (.tmp 9) rfl w.heap.size #[.string n, .string (pnS a), .int .i64 0, .int .i64 10, .int .i64 0, .int .i64 5, .int .i64 0, .int .i64 1000000, .bool false] rfl rfl 53 _ HK.out (by kernel_rfl) rfl (by simp [Value.oneCell']) ?_)
  have hl := run_loadVar_row (P := Tryz.prog) ((w.alloc (.cells #[.string ⟨#[]⟩, .string ⟨#[]⟩, .int .i64 0, .int .i64 0, .int .i64 0, .int .i64 0, .int .i64 0, .int .i64 0, .bool false] 53)).setRow w.heap.size #[.string n, .string (pnS a), .int .i64 0, .int .i64 10, .int .i64 0, .int .i64 5, .int .i64 0, .int .i64 1000000, .bool false]) w.heap.size 53 53 #[.string n, .string (pnS a), .int .i64 0, .int .i64 10, .int .i64 0, .int .i64 5, .int .i64 0, .int .i64 1000000, .bool false] (0, 0) _ (setRow_heap _ w.heap.size _ _ 53 _ HK.out) Tryz.underlying53 rfl (by kernel_rfl)
  refine bodyPost_ret (results_cell1 Tryz.results131 _ _ _ rfl hl) rfl ⟨rfl, below_setRow (below_new' _ _) (Nat.le_refl _) _⟩
def xEdges : List Edg := [⟨⟨#[97, 98]⟩, pnS ⟨#[49]⟩, pnS ⟨#[50]⟩, 1000⟩, ⟨⟨#[98, 99]⟩, pnS ⟨#[50]⟩, pnS ⟨#[51]⟩, 1000⟩, ⟨⟨#[97, 99]⟩, pnS ⟨#[51]⟩, pnS ⟨#[49]⟩, 1000⟩, ⟨⟨#[99, 100]⟩, pnS ⟨#[51]⟩, pnS ⟨#[52]⟩, 1000⟩]
def xPol (n a : ByteArray) : Plc := ⟨n, pnS a, 0, 10, 0, 5, 0, 1000000, false⟩
def xPols : List Plc := [xPol ⟨#[98, 99]⟩ ⟨#[50]⟩, xPol ⟨#[99, 100]⟩ ⟨#[51]⟩, xPol ⟨#[97, 99]⟩ ⟨#[51]⟩]
def xAsk : AskR := ⟨⟨#[80, 110, 49, 59]⟩, ⟨#[80, 110, 52, 59]⟩, 500, 40, 1000, 100, []⟩
def NetPost (E : List Edg) (P : List Plc) (w : World) (e : Ending) (w' : World) : Prop := ∃ k m, e = .returned (.tuple #[.slice (some ⟨k, 0, none⟩) E.length E.length, .slice (some ⟨m, 0, none⟩) P.length P.length]) ∧ w.heap.size ≤ k ∧ w.heap.size ≤ m ∧ w'.heap[k]? = some (.cells (E.flatMap edgC).toArray 51 (0, 0)) ∧ w'.heap[m]? = some (.cells (P.flatMap plcC).toArray 53 (0, 0)) ∧ Below w.heap.size w w'
theorem rows_of {α : Type} {cells : α → List Value} {n : Nat} (hn : ∀ x, (cells x).length = n) {W : World} {k : Nat} {t : TypeId} {l : List α} (hk : W.heap[k]? = some (.cells (l.flatMap cells).toArray t (0, 0))) : RowsAt n cells (some ⟨k, 0, none⟩) l W := by
  refine .inr ⟨k, 0, rfl, fun i x hx j v hv => ?_⟩
  rw [cell_of_row _ _ _ _ _ _ hk]
  have := flat_get cells n hn l i j x v hx hv
  simpa using this
set_option maxRecDepth 100000 in
set_option maxHeartbeats 8000000 in
theorem net_r (w : World) : Calls Tryz.prog 75 #[] w (NetPost xEdges xPols w) := by
  have HE := Lib.hid (fun n a b W (ha : a.size ≤ 1000) (hb : b.size ≤ 1000) => edge_r n a b W ha hb)
  have HP := Lib.hid (fun n a W (ha : a.size ≤ 1000) => policy_r n a W ha)
  go_enter Tryz.func75, Tryz.ntmps75
  go_wp2_with (first
    | (go_at_call 130; (with_reducible refine Calls.mono (HE.out ⟨#[97, 98]⟩ _ _ _ (by decide) (by decide)) ?_); rintro e w1 ⟨rfl, hb1⟩; have B1 := Lib.hid hb1; clear hb1)
    | (go_at_call 130; (with_reducible refine Calls.mono (HE.out ⟨#[98, 99]⟩ _ _ _ (by decide) (by decide)) ?_); rintro e w2 ⟨rfl, hb2⟩; have B2 := Lib.hid (btr B1.out hb2); clear hb2)
    | (go_at_call 130; (with_reducible refine Calls.mono (HE.out ⟨#[97, 99]⟩ _ _ _ (by decide) (by decide)) ?_); rintro e w3 ⟨rfl, hb3⟩; have B3 := Lib.hid (btr B2.out hb3); clear hb3)
    | (go_at_call 130; (with_reducible refine Calls.mono (HE.out ⟨#[99, 100]⟩ _ _ _ (by decide) (by decide)) ?_); rintro e w4 ⟨rfl, hb4⟩; have B4 := Lib.hid (btr (btr B3.out hb4) (below_new' w4 (.cells (xEdges.flatMap edgC).toArray 51))); have K4 : Hid ((w4.alloc (.cells (xEdges.flatMap edgC).toArray 51)).heap[w4.heap.size]? = some (.cells (xEdges.flatMap edgC).toArray 51 (0, 0))) := heap_alloc_at _ _; have S4 := Lib.hid (btr B3.out hb4).size; clear hb4)
    | (go_at_call 131; (with_reducible refine Calls.mono (HP.out ⟨#[98, 99]⟩ _ _ (by decide)) ?_); rintro e w5 ⟨rfl, hb5⟩; have B5 := Lib.hid (btr B4.out hb5); have K5 := Lib.hid ((hb5.block _ (lt_of_heap K4.out)).trans K4.out); clear hb5)
    | (go_at_call 131; (with_reducible refine Calls.mono (HP.out ⟨#[99, 100]⟩ _ _ (by decide)) ?_); rintro e w6 ⟨rfl, hb6⟩; have B6 := Lib.hid (btr B5.out hb6); have K6 := Lib.hid ((hb6.block _ (lt_of_heap K5.out)).trans K5.out); clear hb6)
    | (go_at_call 131; (with_reducible refine Calls.mono (HP.out ⟨#[97, 99]⟩ _ _ (by decide)) ?_); rintro e w7 ⟨rfl, hb7⟩; have B7 := Lib.hid (btr B6.out hb7); have K7 := Lib.hid ((hb7.block _ (lt_of_heap K6.out)).trans K6.out); clear hb7))
  go_ret2
  exact ⟨w4.heap.size, w7.heap.size, rfl, S4.out, B7.out.size, ((below_new' w7 _).block _ (lt_of_heap K7.out)).trans K7.out, heap_alloc_at w7 (.cells (xPols.flatMap plcC).toArray 53), btr B7.out (below_new' _ _)⟩
set_option maxRecDepth 100000 in
set_option maxHeartbeats 4000000 in
theorem ask_r (w : World) : Calls Tryz.prog 76 #[] w fun e w' => e = .returned (askV xAsk none 0) ∧ Below w.heap.size w w' := by
  have hk := heap_alloc_at w (.cells #[.string ⟨#[]⟩, .string ⟨#[]⟩, .int .i64 0, .int .i64 0, .int .i64 0, .int .i64 0, .slice none 0 0] 39)
  have HK := Lib.hid hk
  clear hk
  go_enter Tryz.func76, Tryz.ntmps76
  go_wp2_with (with_reducible refine wpList_store_row rfl 39 (.tmp 0) (.tmp 1) rfl w.heap.size #[.string ⟨#[80, 110, 49, 59]⟩, .string ⟨#[80, 110, 52, 59]⟩, .int .i64 500, .int .i64 40, .int .i64 1000, .int .i64 100, .slice none 0 0] rfl rfl 39 _ HK.out (by kernel_rfl) rfl (by simp [Value.oneCell']) ?_)
  have hl := run_loadVar_row (P := Tryz.prog) ((w.alloc (.cells #[.string ⟨#[]⟩, .string ⟨#[]⟩, .int .i64 0, .int .i64 0, .int .i64 0, .int .i64 0, .slice none 0 0] 39)).setRow w.heap.size #[.string ⟨#[80, 110, 49, 59]⟩, .string ⟨#[80, 110, 52, 59]⟩, .int .i64 500, .int .i64 40, .int .i64 1000, .int .i64 100, .slice none 0 0]) w.heap.size 39 39 #[.string ⟨#[80, 110, 49, 59]⟩, .string ⟨#[80, 110, 52, 59]⟩, .int .i64 500, .int .i64 40, .int .i64 1000, .int .i64 100, .slice none 0 0] (0, 0) _ (setRow_heap _ w.heap.size _ _ 39 _ HK.out) Tryz.underlying39 rfl (by kernel_rfl)
  refine bodyPost_ret (results_cell1 Tryz.results76 _ _ _ rfl hl) rfl ⟨rfl, below_setRow (below_new' _ _) (Nat.le_refl _) _⟩
set_option maxRecDepth 100000 in
set_option maxHeartbeats 4000000 in
theorem refs_any (A : AskR) (ob : Option Addr) (cb : Nat) (w : World) : Calls Tryz.prog 22 #[askV A ob cb] w fun e w' => e = .returned (askV A ob cb) ∧ Below w.heap.size w w' := by
  obtain ⟨af, ad, aa, ax, al, ae, bad⟩ := A
  unfold askV
  dsimp only
  generalize bad.length = bl
  have HK : Hid (((w.alloc (.cells #[.string af, .string ad, .int .i64 aa, .int .i64 ax, .int .i64 al, .int .i64 ae, .slice ob bl cb] 39)).alloc (.cells #[.string ⟨#[]⟩, .string ⟨#[]⟩, .int .i64 0, .int .i64 0, .int .i64 0, .int .i64 0, .slice none 0 0] 45)).heap[w.heap.size + 1]? = some (.cells #[.string ⟨#[]⟩, .string ⟨#[]⟩, .int .i64 0, .int .i64 0, .int .i64 0, .int .i64 0, .slice none 0 0] 45 (0, 0))) := by
    have := heap_alloc_at (w.alloc (.cells #[.string af, .string ad, .int .i64 aa, .int .i64 ax, .int .i64 al, .int .i64 ae, .slice ob bl cb] 39)) (.cells #[.string ⟨#[]⟩, .string ⟨#[]⟩, .int .i64 0, .int .i64 0, .int .i64 0, .int .i64 0, .slice none 0 0] 45)
    show _ = _
    simpa using this
  have B2 : Hid (Below w.heap.size w ((w.alloc (.cells #[.string af, .string ad, .int .i64 aa, .int .i64 ax, .int .i64 al, .int .i64 ae, .slice ob bl cb] 39)).alloc (.cells #[.string ⟨#[]⟩, .string ⟨#[]⟩, .int .i64 0, .int .i64 0, .int .i64 0, .int .i64 0, .slice none 0 0] 45))) := ((Below.refl _ _).alloc (Nat.le_refl _) _).alloc (by simp) _
  go_enter Tryz.func22, Tryz.ntmps22
  go_wp2_with (with_reducible refine wpList_store_row rfl 45 (.tmp 2) (.tmp 17) rfl (w.heap.size + 1) #[.string af, .string ad, .int .i64 aa, .int .i64 ax, .int .i64 al, .int .i64 ae, .slice ob bl cb] rfl rfl 45 _ HK.out (by kernel_rfl) rfl (by simp [Value.oneCell']) ?_)
  have hl := run_loadVar_row (P := Tryz.prog) ((((w.alloc (.cells #[.string af, .string ad, .int .i64 aa, .int .i64 ax, .int .i64 al, .int .i64 ae, .slice ob bl cb] 39)).alloc (.cells #[.string ⟨#[]⟩, .string ⟨#[]⟩, .int .i64 0, .int .i64 0, .int .i64 0, .int .i64 0, .slice none 0 0] 45))).setRow (w.heap.size + 1) #[.string af, .string ad, .int .i64 aa, .int .i64 ax, .int .i64 al, .int .i64 ae, .slice ob bl cb]) (w.heap.size + 1) 45 45 #[.string af, .string ad, .int .i64 aa, .int .i64 ax, .int .i64 al, .int .i64 ae, .slice ob bl cb] (0, 0) _ (setRow_heap _ (w.heap.size + 1) _ _ 45 _ HK.out) Tryz.underlying45 rfl (by kernel_rfl)
  refine bodyPost_ret (results_cell1 Tryz.results22 _ _ _ rfl hl) rfl ⟨rfl, below_setRow B2.out (by omega) _⟩
def xHops : List Hp := [⟨⟨#[97, 99]⟩, ⟨#[80, 110, 51, 59]⟩, 510, 45⟩, ⟨⟨#[99, 100]⟩, ⟨#[80, 110, 52, 59]⟩, 500, 40⟩]
theorem find_ex : findN isKey xEdges xPols xAsk = (xHops, 0) := by kernel_rfl
set_option maxRecDepth 100000 in
set_option maxHeartbeats 8000000 in
theorem works_r (w : World) (hL : LibOk w) : Calls Tryz.prog 19 #[] w fun e w' => e = .returned (.bool true) ∧ Below w.heap.size w w' := by
  have HL := Lib.hid hL
  clear hL
  go_enter Tryz.func19, Tryz.ntmps19
  go_wp2_with (first
    | (go_at_call 75; (with_reducible refine Calls.mono (net_r _) ?_); rintro e w1 ⟨k, m, rfl, hk0, hm0, hk, hm, hb1⟩; have B1 := Lib.hid hb1; have K1 := Lib.hid hk; have M1 := Lib.hid hm; clear hb1 hk hm hk0 hm0)
    | (go_at_call 76; (with_reducible refine Calls.mono (ask_r _) ?_); rintro e w2 ⟨rfl, hb2⟩; have B2 := Lib.hid (btr B1.out hb2); have K2 := Lib.hid ((hb2.block _ (lt_of_heap K1.out)).trans K1.out); have M2 := Lib.hid ((hb2.block _ (lt_of_heap M1.out)).trans M1.out); clear hb2)
    | (go_at_call 20; (refine Calls.mono (find_any (some ⟨k, 0, none⟩) xEdges 4 (some ⟨m, 0, none⟩) xPols 3 xAsk none 0 _ (by decide) (by decide) (HL.out.below B2.out) (rows_of edgC_len K2.out) (rows_of plcC_len M2.out) (.inl rfl)) ?_); rw [find_ex]; rintro e w3 ⟨hb3, v3, rfl, ho3⟩; have B3 := Lib.hid (btr B2.out hb3); have O3 := Lib.hid ho3; obtain ⟨oa, oc, rfl, hr3⟩ := own_rows hpC_len ho3 rfl; have R3 := Lib.hid (hr3.below (below_new' w3 (.cells (xHops.flatMap hpC).toArray 49))); have N3 : Hid (RowsAt 4 hpC (some ⟨w3.heap.size, 0, none⟩) xHops (w3.alloc (.cells (xHops.flatMap hpC).toArray 49))) := rows_of hpC_len (heap_alloc_at _ _); have B4 := Lib.hid (btr B3.out (below_new' w3 (.cells (xHops.flatMap hpC).toArray 49))); clear hb3 ho3 hr3)
    | (go_at_call 23; (refine Calls.mono (same_yes xHops oa oc (some ⟨w3.heap.size, 0, none⟩) 2 _ R3.out N3.out (by decide)) ?_); rintro e w5 ⟨rfl, hb5⟩; have B5 := Lib.hid (btr B4.out hb5); clear hb5))
  go_ret
  exact ⟨rfl, B5.out⟩
end Go.Proofs.YtbdimlppnhcicaaGreatDoor
namespace Go.Proofs.YtbdimlppnhcicaaGreatDoor
set_option linter.unusedVariables false
open Go.RowKit Rte
/-! route: RouteChecks, walked -/
def FeeP (n k : Int) (w : World) (e : Ending) (w' : World) : Prop := e = .returned (.tuple #[.int .i64 n, .int .i64 k]) ∧ Below w.heap.size w w'
theorem fee_both (p : Plc) (a : Int) : ∃ n k, (∀ w, Calls Tryz.prog 26 #[plcV p, .int .i64 a] w (FeeP n k w)) ∧ ∀ w, Calls Tryz.prog 27 #[plcV p, .int .i64 a] w (FeeP n k w) := by
  cases h : Mny.feeO a p.base p.rate with
  | none => exact ⟨0, 40, fun w => (rfee_any p a w).mono fun e w' q => Mny.opt_none q h, fun w => (dfee_any p a w).mono fun e w' q => Mny.opt_none q h⟩
  | some v => exact ⟨v, 0, fun w => (rfee_any p a w).mono fun e w' q => Mny.opt_some q h, fun w => (dfee_any p a w).mono fun e w' q => Mny.opt_some q h⟩
set_option maxRecDepth 100000 in
set_option maxHeartbeats 16000000 in
theorem checks_any (oe : Option Addr) (E : List Edg) (ce : Nat) (op : Option Addr) (P : List Plc) (cp : Nat) (A : AskR) (ob : Option Addr) (cb : Nat) (ol : Option Addr) (l : List Hp) (cl : Nat) (p : Plc) (amt : Int) (w : World)
    (hE : RowsAt 4 edgC oe E w) (hP : RowsAt 9 plcC op P w) (hB : StrsAt ob A.bad w) (hl : RowsAt 4 hpC ol l w) (hf : FitR E P A l) (hlk : ∀ h ∈ l, HopOk h) (hL : LibOk w) :
    Calls Tryz.prog 5 #[netV oe E.length ce op P.length cp, askV A ob cb, .slice ol l.length cl, plcV p, .int .i64 amt] w fun e w' => e = .returned (.bool true) ∧ Below w.heap.size w w' := by
  have hs1 : A.frm.size ≤ maxLen := by have := hf.f; unfold maxLen; omega
  have hs2 : A.dst.size ≤ maxLen := by have := hf.f; unfold maxLen; omega
  have HLG := Lib.hid (fun W (h : Below w.heap.size w W) => large_r oe E ce op P cp A ob cb ol l cl W (hE.below h) (hP.below h) (hB.below h) (hl.below h) hf)
  have HWK := Lib.hid (fun W (h : Below w.heap.size w W) => works_r W (hL.below h))
  have HCK := Lib.hid (fun W (h : Below w.heap.size w W) => check_any oe E ce op P cp A ob cb ol l cl W hs1 hs2 (hL.below h) (hE.below h) (hP.below h) (hB.below h) (hl.below h) hlk)
  have HDK := Lib.hid (fun W (h : Below w.heap.size w W) => dcheck_any oe E ce op P cp A ob cb ol l cl W hs1 hs2 (hE.below h) (hP.below h) (hB.below h) (hl.below h))
  obtain ⟨fn, fk, hfe, hfd⟩ := fee_both p amt
  have HFE := Lib.hid hfe
  have HFD := Lib.hid hfd
  have HRF := Lib.hid (fun W => refs_any A ob cb W)
  obtain ⟨⟨r, c⟩, hr⟩ : ∃ r, checkN isKey E P A l = r := ⟨_, rfl⟩
  rw [hr] at HCK HDK
  clear hE hP hB hl hf hlk hL hs1 hs2 hfe hfd hr
  obtain ⟨af, ad, aa, ax, al, ae, bad⟩ := A
  obtain ⟨pc, pf, ps, pb, pr, pd, pmn, pmx, po⟩ := p
  unfold askV at HLG HCK HDK HRF ⊢
  unfold netV at HLG ⊢
  unfold plcV at HFE HFD ⊢
  dsimp only at HLG HCK HDK HRF HFE HFD ⊢
  unfold CheckPost at HCK HDK
  unfold FeeP at HFE HFD
  dsimp only at HCK HDK
  generalize E.length = el at HLG HCK HDK ⊢
  go_enter Tryz.func5, Tryz.ntmps5
  go_upto_region 1 with fail
  have hb3 : Below w.heap.size w (((w.alloc (.cells #[.slice oe el ce, .slice op P.length cp] 36)).alloc (.cells #[.string af, .string ad, .int .i64 aa, .int .i64 ax, .int .i64 al, .int .i64 ae, .slice ob bad.length cb] 39)).alloc (.cells #[.string pc, .string pf, .int .i64 ps, .int .i64 pb, .int .i64 pr, .int .i64 pd, .int .i64 pmn, .int .i64 pmx, .bool po] 53)) := (((Below.refl _ _).alloc (Nat.le_refl _) _).alloc (by simp) _).alloc (by simp; omega) _
  have k0 : (((w.alloc (.cells #[.slice oe el ce, .slice op P.length cp] 36)).alloc (.cells #[.string af, .string ad, .int .i64 aa, .int .i64 ax, .int .i64 al, .int .i64 ae, .slice ob bad.length cb] 39)).alloc (.cells #[.string pc, .string pf, .int .i64 ps, .int .i64 pb, .int .i64 pr, .int .i64 pd, .int .i64 pmn, .int .i64 pmx, .bool po] 53)).heap[w.heap.size]? = some (.cells #[.slice oe el ce, .slice op P.length cp] 36 (0, 0)) := (heap_alloc_old _ _ (by simp; omega)).trans ((heap_alloc_old _ _ (by simp)).trans (heap_alloc_at w _))
  have k1 : (((w.alloc (.cells #[.slice oe el ce, .slice op P.length cp] 36)).alloc (.cells #[.string af, .string ad, .int .i64 aa, .int .i64 ax, .int .i64 al, .int .i64 ae, .slice ob bad.length cb] 39)).alloc (.cells #[.string pc, .string pf, .int .i64 ps, .int .i64 pb, .int .i64 pr, .int .i64 pd, .int .i64 pmn, .int .i64 pmx, .bool po] 53)).heap[w.heap.size + 1]? = some (.cells #[.string af, .string ad, .int .i64 aa, .int .i64 ax, .int .i64 al, .int .i64 ae, .slice ob bad.length cb] 39 (0, 0)) := by
    refine (heap_alloc_old _ _ (by simp)).trans ?_
    have := heap_alloc_at (w.alloc (.cells #[.slice oe el ce, .slice op P.length cp] 36)) (.cells #[.string af, .string ad, .int .i64 aa, .int .i64 ax, .int .i64 al, .int .i64 ae, .slice ob bad.length cb] 39)
    simpa using this
  have k2 : (((w.alloc (.cells #[.slice oe el ce, .slice op P.length cp] 36)).alloc (.cells #[.string af, .string ad, .int .i64 aa, .int .i64 ax, .int .i64 al, .int .i64 ae, .slice ob bad.length cb] 39)).alloc (.cells #[.string pc, .string pf, .int .i64 ps, .int .i64 pb, .int .i64 pr, .int .i64 pd, .int .i64 pmn, .int .i64 pmx, .bool po] 53)).heap[w.heap.size + 2]? = some (.cells #[.string pc, .string pf, .int .i64 ps, .int .i64 pb, .int .i64 pr, .int .i64 pd, .int .i64 pmn, .int .i64 pmx, .bool po] 53 (0, 0)) := by
    have := heap_alloc_at ((w.alloc (.cells #[.slice oe el ce, .slice op P.length cp] 36)).alloc (.cells #[.string af, .string ad, .int .i64 aa, .int .i64 ax, .int .i64 al, .int .i64 ae, .slice ob bad.length cb] 39)) (.cells #[.string pc, .string pf, .int .i64 ps, .int .i64 pb, .int .i64 pr, .int .i64 pd, .int .i64 pmn, .int .i64 pmx, .bool po] 53)
    simpa using this
  have KK : Hid (∀ W, Below (((w.alloc (.cells #[.slice oe el ce, .slice op P.length cp] 36)).alloc (.cells #[.string af, .string ad, .int .i64 aa, .int .i64 ax, .int .i64 al, .int .i64 ae, .slice ob bad.length cb] 39)).alloc (.cells #[.string pc, .string pf, .int .i64 ps, .int .i64 pb, .int .i64 pr, .int .i64 pd, .int .i64 pmn, .int .i64 pmx, .bool po] 53)).heap.size (((w.alloc (.cells #[.slice oe el ce, .slice op P.length cp] 36)).alloc (.cells #[.string af, .string ad, .int .i64 aa, .int .i64 ax, .int .i64 al, .int .i64 ae, .slice ob bad.length cb] 39)).alloc (.cells #[.string pc, .string pf, .int .i64 ps, .int .i64 pb, .int .i64 pr, .int .i64 pd, .int .i64 pmn, .int .i64 pmx, .bool po] 53)) W → Below w.heap.size w W ∧ (W.cell? ⟨w.heap.size, 0, none⟩ = some (.slice oe el ce) ∧ W.cell? ⟨w.heap.size, 1, none⟩ = some (.slice op P.length cp)) ∧ (W.cell? ⟨w.heap.size + 1, 0, none⟩ = some (.string af) ∧ W.cell? ⟨w.heap.size + 1, 1, none⟩ = some (.string ad) ∧ W.cell? ⟨w.heap.size + 1, 2, none⟩ = some (.int .i64 aa) ∧ W.cell? ⟨w.heap.size + 1, 3, none⟩ = some (.int .i64 ax) ∧ W.cell? ⟨w.heap.size + 1, 4, none⟩ = some (.int .i64 al) ∧ W.cell? ⟨w.heap.size + 1, 5, none⟩ = some (.int .i64 ae) ∧ W.cell? ⟨w.heap.size + 1, 6, none⟩ = some (.slice ob bad.length cb)) ∧ (W.cell? ⟨w.heap.size + 2, 0, none⟩ = some (.string pc) ∧ W.cell? ⟨w.heap.size + 2, 1, none⟩ = some (.string pf) ∧ W.cell? ⟨w.heap.size + 2, 2, none⟩ = some (.int .i64 ps) ∧ W.cell? ⟨w.heap.size + 2, 3, none⟩ = some (.int .i64 pb) ∧ W.cell? ⟨w.heap.size + 2, 4, none⟩ = some (.int .i64 pr) ∧ W.cell? ⟨w.heap.size + 2, 5, none⟩ = some (.int .i64 pd) ∧ W.cell? ⟨w.heap.size + 2, 6, none⟩ = some (.int .i64 pmn) ∧ W.cell? ⟨w.heap.size + 2, 7, none⟩ = some (.int .i64 pmx) ∧ W.cell? ⟨w.heap.size + 2, 8, none⟩ = some (.bool po)) ∧ w.heap.size + 2 < W.heap.size) := fun W h => by
    have e0 := (h.block _ (lt_of_heap k0)).trans k0
    have e1 := (h.block _ (lt_of_heap k1)).trans k1
    have e2 := (h.block _ (lt_of_heap k2)).trans k2
    exact ⟨btr hb3 h, ⟨by rw [cell_of_row _ _ _ _ _ _ e0]; rfl, by rw [cell_of_row _ _ _ _ _ _ e0]; rfl⟩, ask_cells e1, cells9 e2, lt_of_heap e2⟩
  clear k0 k1 k2 hb3
  generalize (((w.alloc (.cells #[.slice oe el ce, .slice op P.length cp] 36)).alloc (.cells #[.string af, .string ad, .int .i64 aa, .int .i64 ax, .int .i64 al, .int .i64 ae, .slice ob bad.length cb] 39)).alloc (.cells #[.string pc, .string pf, .int .i64 ps, .int .i64 pb, .int .i64 pr, .int .i64 pd, .int .i64 pmn, .int .i64 pmx, .bool po] 53)) = w3 at KK ⊢
  obtain ⟨hb3, ⟨n0, n1⟩, ⟨a0, a1, a2, a3, a4, a5, a6⟩, -, l3⟩ := KK.out w3 (Below.refl _ _)
  have B3 := Lib.hid hb3
  clear hb3
  go_cut [22] from 19 to 22 (fun v wx => ∃ b, v = .bool b ∧ Hid (Below w3.heap.size w3 wx))
  case first =>
    go_wp2_with (go_at_call 18; (with_reducible refine Calls.mono (HLG.out _ B3.out) ?_); rintro e4 w4 ⟨b, rfl, -, hb4⟩; have B4 := Lib.hid hb4; clear hb4)
    all_goals go_meet
    all_goals exact ⟨_, rfl, B4.out⟩
  case rest =>
    clear n0 n1 a0 a1 a2 a3 a4 a5 a6 l3
    obtain ⟨b, rfl, HB⟩ := hcut
    obtain ⟨w4, rfl⟩ : ∃ q, q = wc := ⟨wc, rfl⟩
    obtain ⟨b4, ⟨n0, n1⟩, ⟨a0, a1, a2, a3, a4, a5, a6⟩, -, l4⟩ := KK.out w4 HB.out
    have B4 := Lib.hid b4
    cases b with
    | true =>
      go_wp2_with (go_at_call 19; (with_reducible refine Calls.mono (HWK.out _ B4.out) ?_); rintro e w5 ⟨rfl, hb⟩; have B5 := Lib.hid (btr B4.out hb); clear hb)
      go_ret
      exact ⟨rfl, B5.out⟩
    | false =>
      clear HLG b4
      go_upto_region 4 with (go_at_call 24; (with_reducible refine Calls.mono (HCK.out _ B4.out) ?_); rintro e w5 ⟨rfl, hb⟩; have B5 := Lib.hid (btr HB.out hb); clear hb)
      clear n0 n1 a0 a1 a2 a3 a4 a5 a6 l4
      obtain ⟨b5, ⟨n0, n1⟩, ⟨a0, a1, a2, a3, a4, a5, a6⟩, -, l5⟩ := KK.out _ B5.out
      have C5 := Lib.hid b5
      clear b5
      replace n0 := Later.cell n0; replace n1 := Later.cell n1; replace a0 := Later.cell a0; replace a1 := Later.cell a1; replace a2 := Later.cell a2; replace a3 := Later.cell a3; replace a4 := Later.cell a4; replace a5 := Later.cell a5; replace a6 := Later.cell a6
      refine wp_region_later (by kernel_rfl) (by kernel_rfl) ?_
      repeat (go_big_quiet_step ((first | (go_at_call 22; exact calls_later (HRF.out _)) | (go_at_call 25; exact calls_later (HDK.out _ (btr C5.out (Later.below _)))))))
      refine wpQuiet_nil ?_
      intro _ hw'
      obtain ⟨nq, rfl⟩ := hw'
      clear n0 n1 a0 a1 a2 a3 a4 a5 a6 l5
      obtain ⟨b6, -, -, ⟨p0, p1, p2, p3, p4, p5, p6, p7, p8⟩, l6⟩ := KK.out _ (btr B5.out nq.below)
      have B6 := Lib.hid (btr B5.out nq.below)
      clear b6
      generalize nq.at_ = w6 at B6 p0 p1 p2 p3 p4 p5 p6 p7 p8 l6 ⊢
      have e1 : (c == c) = true := by simp
      have e2 : (fn == fn) = true := by simp
      have e3 : (fk == fk) = true := by simp
      have e4 : (r == r) = true := by simp
      go_wp2_with (first
        | (go_at_call 26; (with_reducible refine Calls.mono (HFE.out _) ?_); rintro e w7 ⟨rfl, hb⟩; have B7 := Lib.hid (btr B6.out hb); obtain ⟨-, -, -, ⟨q0, q1, q2, q3, q4, q5, q6, q7, q8⟩, l7⟩ := KK.out _ B7.out; clear hb)
        | (go_at_call 27; (with_reducible refine Calls.mono (HFD.out _) ?_); rintro e w8 ⟨rfl, hb⟩; have B8 := Lib.hid (btr B7.out hb); have C8 := Lib.hid (KK.out _ B8.out).1; clear hb)
        | (go_at_call 19; (with_reducible refine Calls.mono (HWK.out _ C8.out) ?_); rintro e w9 ⟨rfl, hb⟩; have B9 := Lib.hid (btr C8.out hb); clear hb))
      go_ret
      exact ⟨rfl, B9.out⟩
end Go.Proofs.YtbdimlppnhcicaaGreatDoor
