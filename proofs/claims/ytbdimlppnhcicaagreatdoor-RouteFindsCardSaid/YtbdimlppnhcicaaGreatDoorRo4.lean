/- route: what is refused ahead of the policies -/
import Derived.StillTailTactics
import Derived.Lib.ParseIntB
import Derived.Lib.Bytealg
import Derived.Lib.ItoaNum
import Derived.Lib.ParseIntBCases
import Derived.Shelf.Strings.Builder1
import Derived.Shelf.Small.Bits
import Derived.Shelf.Small.Strs
import Derived.Shelf.Small.Wraps
import Derived.Shelf.Strings.BuilderF
import Derived.Shelf.Strings.BuilderK
import Derived.Shelf.Strconv.Itoa0
import Derived.Shelf.Strconv.Itoa1
import Derived.Shelf.LaysM
import Derived.Shelf.Strconv.Itoa2
import Derived.Shelf.Strconv.Itoa3
import Derived.Shelf.Strconv.Itoa4
import Derived.Shelf.Strconv.ParseIntEmpty
import Derived.Shelf.Strconv.Clone
import Derived.Shelf.Strconv.SyntaxError
import Derived.Shelf.LaysC
import Derived.Shelf.Strconv.ToError
import Derived.Shelf.Strconv.Lower
import Derived.Shelf.Strconv.ParseUint10
import Derived.Shelf.Strconv.ParseUint10Empty
import Derived.Shelf.Strconv.ParseUint10Any
import Derived.Shelf.Strconv.ParseInt10
import Derived.Shelf.Strconv.RangeError
import Derived.Shelf.Strconv.ToErrorRange
import Derived.Shelf.Strconv.ParseUintEmpty
import Derived.Shelf.Strconv.ParseUint10b64
import Derived.Shelf.Strconv.ParseUint10b32
import Derived.Shelf.Strconv.ParseUint10b16
import Derived.Shelf.Strconv.ParseUint10b8
import Derived.Shelf.Strconv.ParseUint10At
import Derived.Shelf.Strconv.ParseInt10At64
import Derived.Shelf.Strconv.ParseInt10At32
import Derived.Shelf.Strconv.ParseInt10At16
import Derived.Shelf.Strconv.ParseInt10At8
import Derived.Shelf.Strconv.ParseInt10All
import Derived.Shelf.Strconv.ParseIntPublic10
import Derived.Shelf.Strconv.ErrVarParseInt
import Derived.Shelf.Strings.Search1
import Derived.Shelf.Bits.Mul64
import Derived.Shelf.Strings.BuilderCap
import Derived.Ground.Names2Prog
import Derived.Shelf.Slices.Clone
import Derived.Shelf.Slices.SearchI
import Derived.Ground.SlgnProg
import Derived.Shelf.SlicesE.Clone
import Derived.WalkKit
import Derived.WalkSpells
import Derived.WalkLawsBesides
import Derived.Handy
import Derived.Lib.Hide
import Derived.Deep.QuietTactic
import Derived.BigQuiet
import Derived.Deep.RegionHeld3
import Derived.Lib.Strings
import Derived.Lib.IndexBytes
import Derived.BigRegion
import Derived.Deep.RegionLaw
import Derived.Deep.AppendLies
import Derived.Deep.LoopGhost
import Derived.Deep.Onto
import Derived.Deep.WholeRow
import Derived.Deep.CutRange
import Derived.Laws.CopyOwn
import Derived.Lib.ItoaLen
import Derived.Lib.AppendIntMem
import Derived.Deep.CutBlock
import Derived.Deep.MidRow
import Derived.Deep.RegionHeld
import Derived.Outline
import Derived.Laws.Tables
import Derived.Laws.MakeOwn
import Derived.Laws.OwnMore
import Derived.WalkMore
import Derived.MapKept
import Derived.Carry
import Derived.Test.YtbdimlppnhcicaaGreatDoorRows
import Derived.Test.YtbdimlppnhcicaaGreatDoorProg
import Derived.Test.YtbdimlppnhcicaaGreatDoorNu
import Derived.Test.YtbdimlppnhcicaaGreatDoorTa
import Derived.Test.YtbdimlppnhcicaaGreatDoorTl
import Derived.Test.YtbdimlppnhcicaaGreatDoorRg
import Derived.Test.YtbdimlppnhcicaaGreatDoorBa
import Derived.Test.YtbdimlppnhcicaaGreatDoorO
import Derived.Test.YtbdimlppnhcicaaGreatDoorVa
import Derived.Test.YtbdimlppnhcicaaGreatDoorWg
import Derived.Test.YtbdimlppnhcicaaGreatDoorSo
import Derived.Test.YtbdimlppnhcicaaGreatDoorOnA
import Derived.Test.YtbdimlppnhcicaaGreatDoorOb
import Derived.Test.YtbdimlppnhcicaaGreatDoorOe
import Derived.Test.YtbdimlppnhcicaaGreatDoorMny
import Derived.Test.YtbdimlppnhcicaaGreatDoorRo1
import Derived.Test.YtbdimlppnhcicaaGreatDoorOf
import Derived.Test.YtbdimlppnhcicaaGreatDoorOh
import Derived.Test.YtbdimlppnhcicaaGreatDoorOj
import Derived.Test.YtbdimlppnhcicaaGreatDoorRo2
import Derived.Test.YtbdimlppnhcicaaGreatDoorRo3
namespace Go.Proofs.YtbdimlppnhcicaaGreatDoor
set_option linter.unusedVariables false
open Go.RowKit Rte
/-! route: rows of channels, of policies; the net -/
def RowsAt {α : Type} (n : Nat) (cells : α → List Value) (o : Option Addr) (l : List α) (w : World) : Prop := l = [] ∨ ∃ b off, o = some ⟨b, off, none⟩ ∧ ∀ (k : Nat) (x : α), l[k]? = some x → w.rangeAt b (off + k * n) (cells x)
theorem RowsAt.below {α : Type} {n : Nat} {cells : α → List Value} {o : Option Addr} {l : List α} {w w' : World} (h : RowsAt n cells o l w) (hb : Below w.heap.size w w') : RowsAt n cells o l w' := by
  rcases h with h | ⟨b, off, h1, h2⟩
  · exact .inl h
  · exact .inr ⟨b, off, h1, fun k x hx => fun j v hv => cell_later' hb (h2 k x hx j v hv)⟩
theorem rows_at {α : Type} {n : Nat} {cells : α → List Value} {o : Option Addr} {l : List α} {w : World} (h : RowsAt n cells o l w) {i : Nat} {x : α} (hi : l[i]? = some x) : ∃ b off, o = some ⟨b, off, none⟩ ∧ w.rangeAt b (off + i * n) (cells x) := by
  obtain ⟨b, off, h1, h2⟩ := h.resolve_left (by intro h; rw [h] at hi; simp at hi)
  exact ⟨b, off, h1, h2 i x hi⟩
def edgC (e : Edg) : List Value := [.string e.chan, .string e.a, .string e.b, .int .i64 e.cap]
def plcC (p : Plc) : List Value := [.string p.chan, .string p.frm, .int .i64 p.stamp, .int .i64 p.base, .int .i64 p.rate, .int .i64 p.delta, .int .i64 p.min, .int .i64 p.max, .bool p.off]
/-- a way with its channel -/
abbrev WayE := Rte.Way × ByteArray × ByteArray
def wayC (x : WayE) : List Value := [.string x.1.chan, .string x.2.1, .string x.2.2, .int .i64 x.1.cap, .string x.1.frm, .string x.1.dst]
def waysC (l : List WayE) : List Value := l.flatMap wayC
def askV (A : AskR) (ob : Option Addr) (cb : Nat) : Value := .agg #[.string A.frm, .string A.dst, .int .i64 A.amt, .int .i64 A.exp, .int .i64 A.latest, .int .i64 A.fee, .slice ob A.bad.length cb]
/-- the net in memory -/
structure NetS (base nb mm : Nat) (v : Value) (L : List Plc) (Ws : List WayE) (W : World) : Prop where
  n : W.heap[nb]? = some (.cells #[v, .map (some mm)] 145 (0, 0))
  m : ∃ es c, W.heap[mm]? = some (.map es c) ∧ LiesG kvP es.toList L
  own : W.ownsRow base 147 6 v Ws.length (waysC Ws)
  h1 : base ≤ nb
  h2 : base ≤ mm
  ne : nb ≠ mm
def NetAt (base nb : Nat) (P : List Plc) (ways : List Rte.Way) (W : World) : Prop := ∃ mm v L Ws, NetS base nb mm v L Ws W ∧ (∀ c f, polOf L c f = polOf P c f) ∧ (∀ p ∈ L, p ∈ P) ∧ Ws.map (·.1) = ways
def OfPost (E : List Edg) (P : List Plc) (A : AskR) (w : World) (e : Ending) (w' : World) : Prop :=
  Below w.heap.size w w' ∧ (refusedN isKey E P A ≠ 0 → e = .returned (.tuple #[.pointer none, .int .i64 (refusedN isKey E P A)])) ∧
    (refusedN isKey E P A = 0 → ∃ nb, e = .returned (.tuple #[.pointer (some ⟨nb, 0, none⟩), .int .i64 0]) ∧ NetAt w.heap.size nb P (waysGo A.bad E) w')
theorem OfPost.no {E : List Edg} {P : List Plc} {A : AskR} {w w' : World} {c : Int} (hb : Below w.heap.size w w') (hc : refusedN isKey E P A = c) (h0 : c ≠ 0) : OfPost E P A w (.returned (.tuple #[.pointer none, .int .i64 c])) w' :=
  ⟨hb, fun _ => by rw [hc], fun h => absurd (hc.symm.trans h) h0⟩
/-- what stands ahead of the policies -/
def earlyN (E : List Edg) (P : List Plc) (A : AskR) : Int :=
  if 256 < E.length ∨ 512 < P.length ∨ 256 < A.bad.length then 3
  else if isKey A.frm = false ∨ isKey A.dst = false ∨ A.frm = A.dst ∨ timeB A.exp = false ∨ timeB A.latest = false then 2
  else if A.amt < 1 ∨ 2100000000000000000 < A.amt ∨ A.fee < 0 ∨ 2100000000000000000 < A.fee then 40 else 0
theorem early_ref (E : List Edg) (P : List Plc) (A : AskR) : refusedN isKey E P A = if earlyN E P A ≠ 0 then earlyN E P A else if P.any plcBad = true then 2 else if E.any edgBad = true then 2 else 0 := by
  unfold refusedN earlyN
  split
  · rfl
  · split
    · rfl
    · split <;> rfl
theorem shr_ok (n : Int) (h : timeB n = true) : (n / 2147483648 != 0) = false := by
  obtain ⟨h0, h1⟩ := (time_iff n).1 h
  have : n / 2147483648 = 0 := by omega
  simp [this]
theorem shr_bad (n : Int) (h : timeB n = false) : (n / 2147483648 != 0) = true := by
  have h' : ¬ (0 ≤ n ∧ n < 2147483648) := fun k => by rw [(time_iff n).2 k] at h; cases h
  have : ¬ n / 2147483648 = 0 := by omega
  simp [this]
theorem ask_cells {W : World} {k : Nat} {af ad : ByteArray} {aa ax al ae : Int} {v : Value} (h : W.heap[k]? = some (.cells #[.string af, .string ad, .int .i64 aa, .int .i64 ax, .int .i64 al, .int .i64 ae, v] 39 (0, 0))) :
    W.cell? ⟨k, 0, none⟩ = some (.string af) ∧ W.cell? ⟨k, 1, none⟩ = some (.string ad) ∧ W.cell? ⟨k, 2, none⟩ = some (.int .i64 aa) ∧ W.cell? ⟨k, 3, none⟩ = some (.int .i64 ax) ∧ W.cell? ⟨k, 4, none⟩ = some (.int .i64 al) ∧ W.cell? ⟨k, 5, none⟩ = some (.int .i64 ae) ∧ W.cell? ⟨k, 6, none⟩ = some v := by
  refine ⟨?_, ?_, ?_, ?_, ?_, ?_, ?_⟩ <;> (rw [cell_of_row _ _ _ _ _ _ h]; rfl)
theorem time_not {n : Int} (h : ¬ timeB n = true) : timeB n = false := by cases hh : timeB n; rfl; exact absurd hh h
set_option maxRecDepth 100000 in
set_option maxHeartbeats 8000000 in
theorem of_early1 (oe : Option Addr) (E : List Edg) (ce : Nat) (op : Option Addr) (P : List Plc) (cp : Nat) (A : AskR) (ob : Option Addr) (cb : Nat) (w : World) (hs1 : A.frm.size ≤ maxLen) (hs2 : A.dst.size ≤ maxLen) (hL : LibOk w)
    (c1 : 256 < E.length ∨ 512 < P.length ∨ 256 < A.bad.length) : Calls Tryz.prog 77 #[.slice oe E.length ce, .slice op P.length cp, askV A ob cb] w (OfPost E P A w) := by
  obtain ⟨af, ad, aa, ax, al, ae, bad⟩ := A
  have HEF := Lib.hid (fun W (hW : LibOk W) => isKey_any af W hs1 hW)
  have HED := Lib.hid (fun W (hW : LibOk W) => isKey_any ad W hs2 hW)
  have HLL : Hid (∀ W, Below w.heap.size w W → LibOk W) := fun W h => hL.below h
  clear hL hs1 hs2
  show Calls Tryz.prog 77 #[.slice oe E.length ce, .slice op P.length cp, .agg #[.string af, .string ad, .int .i64 aa, .int .i64 ax, .int .i64 al, .int .i64 ae, .slice ob bad.length cb]] w _
  have HV : Hid (refusedN isKey E P ⟨af, ad, aa, ax, al, ae, bad⟩ = 3) := by show _ = _; rw [early_ref]; unfold earlyN; rw [if_pos c1]; rfl
  dsimp only at c1
  by_cases g1 : 256 < E.length
  · have d1 : decide ((256 : Int) < (E.length : Int)) = true := decide_eq_true (by omega)
    clear c1 g1
    go_enter Tryz.func77, Tryz.ntmps77
    go_wp2_with (first
            | (go_at_call 132; (with_reducible refine Calls.mono (HEF.out _ (HLL.out _ (by repeat (first | exact below_new' _ _ | refine bdN ?_ _ | refine Below.drew ?_)))) ?_); rintro e w1 ⟨rfl, hb1⟩; have B1 : Hid (Below w.heap.size w w1) := btr (by repeat (first | exact below_new' _ _ | refine bdN ?_ _ | refine Below.drew ?_)) hb1; have KA1 : w1.heap[w.heap.size]? = some (.cells #[.string af, .string ad, .int .i64 aa, .int .i64 ax, .int .i64 al, .int .i64 ae, .slice ob bad.length cb] 39 (0, 0)) := (hb1.block _ (by simp)).trans (heap_alloc_at _ _); obtain ⟨a0, a1, a2, a3, a4, a5, a6⟩ := ask_cells KA1; have KK := Lib.hid KA1; clear hb1 KA1)
            | (go_at_call 132; (with_reducible refine Calls.mono (HED.out _ (HLL.out _ B1.out)) ?_); rintro e w2 ⟨rfl, hb2⟩; have B2 : Hid (Below w.heap.size w w2) := btr B1.out hb2; have KA2 : w2.heap[w.heap.size]? = some (.cells #[.string af, .string ad, .int .i64 aa, .int .i64 ax, .int .i64 al, .int .i64 ae, .slice ob bad.length cb] 39 (0, 0)) := (hb2.block _ (lt_of_heap KK.out)).trans KK.out; obtain ⟨b0, b1, b2, b3, b4, b5, b6⟩ := ask_cells KA2; clear hb2 KA2)
            | (go_at_call 133; (with_reducible refine Calls.mono (right_num _ _) ?_); rintro e w3 ⟨rfl, rfl⟩))
    go_ret2
    exact OfPost.no (by repeat (first | exact below_new' _ _ | refine bdN ?_ _ | refine Below.drew ?_)) HV.out (by decide)
  · have d1 : decide ((256 : Int) < (E.length : Int)) = false := decide_eq_false (by omega)
    by_cases g2 : 512 < P.length
    · have d2 : decide ((512 : Int) < (P.length : Int)) = true := decide_eq_true (by omega)
      clear c1 g1 g2
      go_enter Tryz.func77, Tryz.ntmps77
      go_wp2_with (first
            | (go_at_call 132; (with_reducible refine Calls.mono (HEF.out _ (HLL.out _ (by repeat (first | exact below_new' _ _ | refine bdN ?_ _ | refine Below.drew ?_)))) ?_); rintro e w1 ⟨rfl, hb1⟩; have B1 : Hid (Below w.heap.size w w1) := btr (by repeat (first | exact below_new' _ _ | refine bdN ?_ _ | refine Below.drew ?_)) hb1; have KA1 : w1.heap[w.heap.size]? = some (.cells #[.string af, .string ad, .int .i64 aa, .int .i64 ax, .int .i64 al, .int .i64 ae, .slice ob bad.length cb] 39 (0, 0)) := (hb1.block _ (by simp)).trans (heap_alloc_at _ _); obtain ⟨a0, a1, a2, a3, a4, a5, a6⟩ := ask_cells KA1; have KK := Lib.hid KA1; clear hb1 KA1)
            | (go_at_call 132; (with_reducible refine Calls.mono (HED.out _ (HLL.out _ B1.out)) ?_); rintro e w2 ⟨rfl, hb2⟩; have B2 : Hid (Below w.heap.size w w2) := btr B1.out hb2; have KA2 : w2.heap[w.heap.size]? = some (.cells #[.string af, .string ad, .int .i64 aa, .int .i64 ax, .int .i64 al, .int .i64 ae, .slice ob bad.length cb] 39 (0, 0)) := (hb2.block _ (lt_of_heap KK.out)).trans KK.out; obtain ⟨b0, b1, b2, b3, b4, b5, b6⟩ := ask_cells KA2; clear hb2 KA2)
            | (go_at_call 133; (with_reducible refine Calls.mono (right_num _ _) ?_); rintro e w3 ⟨rfl, rfl⟩))
      go_ret2
      exact OfPost.no (by repeat (first | exact below_new' _ _ | refine bdN ?_ _ | refine Below.drew ?_)) HV.out (by decide)
    · have d2 : decide ((512 : Int) < (P.length : Int)) = false := decide_eq_false (by omega)
      have d3 : decide ((256 : Int) < (bad.length : Int)) = true := decide_eq_true (by omega)
      clear c1 g1 g2
      go_enter Tryz.func77, Tryz.ntmps77
      go_wp2_with (first
            | (go_at_call 132; (with_reducible refine Calls.mono (HEF.out _ (HLL.out _ (by repeat (first | exact below_new' _ _ | refine bdN ?_ _ | refine Below.drew ?_)))) ?_); rintro e w1 ⟨rfl, hb1⟩; have B1 : Hid (Below w.heap.size w w1) := btr (by repeat (first | exact below_new' _ _ | refine bdN ?_ _ | refine Below.drew ?_)) hb1; have KA1 : w1.heap[w.heap.size]? = some (.cells #[.string af, .string ad, .int .i64 aa, .int .i64 ax, .int .i64 al, .int .i64 ae, .slice ob bad.length cb] 39 (0, 0)) := (hb1.block _ (by simp)).trans (heap_alloc_at _ _); obtain ⟨a0, a1, a2, a3, a4, a5, a6⟩ := ask_cells KA1; have KK := Lib.hid KA1; clear hb1 KA1)
            | (go_at_call 132; (with_reducible refine Calls.mono (HED.out _ (HLL.out _ B1.out)) ?_); rintro e w2 ⟨rfl, hb2⟩; have B2 : Hid (Below w.heap.size w w2) := btr B1.out hb2; have KA2 : w2.heap[w.heap.size]? = some (.cells #[.string af, .string ad, .int .i64 aa, .int .i64 ax, .int .i64 al, .int .i64 ae, .slice ob bad.length cb] 39 (0, 0)) := (hb2.block _ (lt_of_heap KK.out)).trans KK.out; obtain ⟨b0, b1, b2, b3, b4, b5, b6⟩ := ask_cells KA2; clear hb2 KA2)
            | (go_at_call 133; (with_reducible refine Calls.mono (right_num _ _) ?_); rintro e w3 ⟨rfl, rfl⟩))
      go_ret2
      exact OfPost.no (by repeat (first | exact below_new' _ _ | refine bdN ?_ _ | refine Below.drew ?_)) HV.out (by decide)
set_option maxRecDepth 100000 in
set_option maxHeartbeats 8000000 in
theorem of_early2 (oe : Option Addr) (E : List Edg) (ce : Nat) (op : Option Addr) (P : List Plc) (cp : Nat) (A : AskR) (ob : Option Addr) (cb : Nat) (w : World) (hs1 : A.frm.size ≤ maxLen) (hs2 : A.dst.size ≤ maxLen) (hL : LibOk w)
    (c1 : ¬ (256 < E.length ∨ 512 < P.length ∨ 256 < A.bad.length)) (c2 : isKey A.frm = false ∨ isKey A.dst = false ∨ A.frm = A.dst ∨ timeB A.exp = false ∨ timeB A.latest = false) : Calls Tryz.prog 77 #[.slice oe E.length ce, .slice op P.length cp, askV A ob cb] w (OfPost E P A w) := by
  obtain ⟨af, ad, aa, ax, al, ae, bad⟩ := A
  have HEF := Lib.hid (fun W (hW : LibOk W) => isKey_any af W hs1 hW)
  have HED := Lib.hid (fun W (hW : LibOk W) => isKey_any ad W hs2 hW)
  have HLL : Hid (∀ W, Below w.heap.size w W → LibOk W) := fun W h => hL.below h
  clear hL hs1 hs2
  show Calls Tryz.prog 77 #[.slice oe E.length ce, .slice op P.length cp, .agg #[.string af, .string ad, .int .i64 aa, .int .i64 ax, .int .i64 al, .int .i64 ae, .slice ob bad.length cb]] w _
  have HV : Hid (refusedN isKey E P ⟨af, ad, aa, ax, al, ae, bad⟩ = 2) := by show _ = _; rw [early_ref]; unfold earlyN; rw [if_neg c1, if_pos c2]; rfl
  dsimp only at c1 c2
  have d1 : decide ((256 : Int) < (E.length : Int)) = false := decide_eq_false (by omega)
  have d2 : decide ((512 : Int) < (P.length : Int)) = false := decide_eq_false (by omega)
  have d3 : decide ((256 : Int) < (bad.length : Int)) = false := decide_eq_false (by omega)
  clear c1
  generalize isKey af = k1 at HEF c2
  generalize isKey ad = k2 at HED c2
  cases k1 with
  | false =>
    clear c2
    go_enter Tryz.func77, Tryz.ntmps77
    go_wp2_with (first
            | (go_at_call 132; (with_reducible refine Calls.mono (HEF.out _ (HLL.out _ (by repeat (first | exact below_new' _ _ | refine bdN ?_ _ | refine Below.drew ?_)))) ?_); rintro e w1 ⟨rfl, hb1⟩; have B1 : Hid (Below w.heap.size w w1) := btr (by repeat (first | exact below_new' _ _ | refine bdN ?_ _ | refine Below.drew ?_)) hb1; have KA1 : w1.heap[w.heap.size]? = some (.cells #[.string af, .string ad, .int .i64 aa, .int .i64 ax, .int .i64 al, .int .i64 ae, .slice ob bad.length cb] 39 (0, 0)) := (hb1.block _ (by simp)).trans (heap_alloc_at _ _); obtain ⟨a0, a1, a2, a3, a4, a5, a6⟩ := ask_cells KA1; have KK := Lib.hid KA1; clear hb1 KA1)
            | (go_at_call 132; (with_reducible refine Calls.mono (HED.out _ (HLL.out _ B1.out)) ?_); rintro e w2 ⟨rfl, hb2⟩; have B2 : Hid (Below w.heap.size w w2) := btr B1.out hb2; have KA2 : w2.heap[w.heap.size]? = some (.cells #[.string af, .string ad, .int .i64 aa, .int .i64 ax, .int .i64 al, .int .i64 ae, .slice ob bad.length cb] 39 (0, 0)) := (hb2.block _ (lt_of_heap KK.out)).trans KK.out; obtain ⟨b0, b1, b2, b3, b4, b5, b6⟩ := ask_cells KA2; clear hb2 KA2)
            | (go_at_call 133; (with_reducible refine Calls.mono (right_num _ _) ?_); rintro e w3 ⟨rfl, rfl⟩))
    go_ret2
    exact OfPost.no (by repeat (first | exact B1.out | refine bdN ?_ _ | refine Below.drew ?_)) HV.out (by decide)
  | true =>
    cases k2 with
    | false =>
      clear c2
      go_enter Tryz.func77, Tryz.ntmps77
      go_wp2_with (first
            | (go_at_call 132; (with_reducible refine Calls.mono (HEF.out _ (HLL.out _ (by repeat (first | exact below_new' _ _ | refine bdN ?_ _ | refine Below.drew ?_)))) ?_); rintro e w1 ⟨rfl, hb1⟩; have B1 : Hid (Below w.heap.size w w1) := btr (by repeat (first | exact below_new' _ _ | refine bdN ?_ _ | refine Below.drew ?_)) hb1; have KA1 : w1.heap[w.heap.size]? = some (.cells #[.string af, .string ad, .int .i64 aa, .int .i64 ax, .int .i64 al, .int .i64 ae, .slice ob bad.length cb] 39 (0, 0)) := (hb1.block _ (by simp)).trans (heap_alloc_at _ _); obtain ⟨a0, a1, a2, a3, a4, a5, a6⟩ := ask_cells KA1; have KK := Lib.hid KA1; clear hb1 KA1)
            | (go_at_call 132; (with_reducible refine Calls.mono (HED.out _ (HLL.out _ B1.out)) ?_); rintro e w2 ⟨rfl, hb2⟩; have B2 : Hid (Below w.heap.size w w2) := btr B1.out hb2; have KA2 : w2.heap[w.heap.size]? = some (.cells #[.string af, .string ad, .int .i64 aa, .int .i64 ax, .int .i64 al, .int .i64 ae, .slice ob bad.length cb] 39 (0, 0)) := (hb2.block _ (lt_of_heap KK.out)).trans KK.out; obtain ⟨b0, b1, b2, b3, b4, b5, b6⟩ := ask_cells KA2; clear hb2 KA2)
            | (go_at_call 133; (with_reducible refine Calls.mono (right_num _ _) ?_); rintro e w3 ⟨rfl, rfl⟩))
      go_ret2
      exact OfPost.no (by repeat (first | exact B2.out | refine bdN ?_ _ | refine Below.drew ?_)) HV.out (by decide)
    | true =>
      by_cases h3 : af = ad
      · have q1 : af.toList = ad.toList := by rw [h3]
        clear c2 h3
        go_enter Tryz.func77, Tryz.ntmps77
        go_wp2_with (first
            | (go_at_call 132; (with_reducible refine Calls.mono (HEF.out _ (HLL.out _ (by repeat (first | exact below_new' _ _ | refine bdN ?_ _ | refine Below.drew ?_)))) ?_); rintro e w1 ⟨rfl, hb1⟩; have B1 : Hid (Below w.heap.size w w1) := btr (by repeat (first | exact below_new' _ _ | refine bdN ?_ _ | refine Below.drew ?_)) hb1; have KA1 : w1.heap[w.heap.size]? = some (.cells #[.string af, .string ad, .int .i64 aa, .int .i64 ax, .int .i64 al, .int .i64 ae, .slice ob bad.length cb] 39 (0, 0)) := (hb1.block _ (by simp)).trans (heap_alloc_at _ _); obtain ⟨a0, a1, a2, a3, a4, a5, a6⟩ := ask_cells KA1; have KK := Lib.hid KA1; clear hb1 KA1)
            | (go_at_call 132; (with_reducible refine Calls.mono (HED.out _ (HLL.out _ B1.out)) ?_); rintro e w2 ⟨rfl, hb2⟩; have B2 : Hid (Below w.heap.size w w2) := btr B1.out hb2; have KA2 : w2.heap[w.heap.size]? = some (.cells #[.string af, .string ad, .int .i64 aa, .int .i64 ax, .int .i64 al, .int .i64 ae, .slice ob bad.length cb] 39 (0, 0)) := (hb2.block _ (lt_of_heap KK.out)).trans KK.out; obtain ⟨b0, b1, b2, b3, b4, b5, b6⟩ := ask_cells KA2; clear hb2 KA2)
            | (go_at_call 133; (with_reducible refine Calls.mono (right_num _ _) ?_); rintro e w3 ⟨rfl, rfl⟩))
        go_ret2
        exact OfPost.no (by repeat (first | exact B2.out | refine bdN ?_ _ | refine Below.drew ?_)) HV.out (by decide)
      · have q1 := toList_ne h3
        by_cases h4 : timeB ax = true
        · have s1 := shr_ok ax h4
          have s2 := shr_bad al (by rcases c2 with h | h | h | h | h; cases h; cases h; exact absurd h h3; rw [h4] at h; cases h; exact h)
          clear c2 h4
          go_enter Tryz.func77, Tryz.ntmps77
          go_wp2_with (first
            | (go_at_call 132; (with_reducible refine Calls.mono (HEF.out _ (HLL.out _ (by repeat (first | exact below_new' _ _ | refine bdN ?_ _ | refine Below.drew ?_)))) ?_); rintro e w1 ⟨rfl, hb1⟩; have B1 : Hid (Below w.heap.size w w1) := btr (by repeat (first | exact below_new' _ _ | refine bdN ?_ _ | refine Below.drew ?_)) hb1; have KA1 : w1.heap[w.heap.size]? = some (.cells #[.string af, .string ad, .int .i64 aa, .int .i64 ax, .int .i64 al, .int .i64 ae, .slice ob bad.length cb] 39 (0, 0)) := (hb1.block _ (by simp)).trans (heap_alloc_at _ _); obtain ⟨a0, a1, a2, a3, a4, a5, a6⟩ := ask_cells KA1; have KK := Lib.hid KA1; clear hb1 KA1)
            | (go_at_call 132; (with_reducible refine Calls.mono (HED.out _ (HLL.out _ B1.out)) ?_); rintro e w2 ⟨rfl, hb2⟩; have B2 : Hid (Below w.heap.size w w2) := btr B1.out hb2; have KA2 : w2.heap[w.heap.size]? = some (.cells #[.string af, .string ad, .int .i64 aa, .int .i64 ax, .int .i64 al, .int .i64 ae, .slice ob bad.length cb] 39 (0, 0)) := (hb2.block _ (lt_of_heap KK.out)).trans KK.out; obtain ⟨b0, b1, b2, b3, b4, b5, b6⟩ := ask_cells KA2; clear hb2 KA2)
            | (go_at_call 133; (with_reducible refine Calls.mono (right_num _ _) ?_); rintro e w3 ⟨rfl, rfl⟩))
          go_ret2
          exact OfPost.no (by repeat (first | exact B2.out | refine bdN ?_ _ | refine Below.drew ?_)) HV.out (by decide)
        · have s1 := shr_bad ax (time_not h4)
          clear c2 h4
          go_enter Tryz.func77, Tryz.ntmps77
          go_wp2_with (first
            | (go_at_call 132; (with_reducible refine Calls.mono (HEF.out _ (HLL.out _ (by repeat (first | exact below_new' _ _ | refine bdN ?_ _ | refine Below.drew ?_)))) ?_); rintro e w1 ⟨rfl, hb1⟩; have B1 : Hid (Below w.heap.size w w1) := btr (by repeat (first | exact below_new' _ _ | refine bdN ?_ _ | refine Below.drew ?_)) hb1; have KA1 : w1.heap[w.heap.size]? = some (.cells #[.string af, .string ad, .int .i64 aa, .int .i64 ax, .int .i64 al, .int .i64 ae, .slice ob bad.length cb] 39 (0, 0)) := (hb1.block _ (by simp)).trans (heap_alloc_at _ _); obtain ⟨a0, a1, a2, a3, a4, a5, a6⟩ := ask_cells KA1; have KK := Lib.hid KA1; clear hb1 KA1)
            | (go_at_call 132; (with_reducible refine Calls.mono (HED.out _ (HLL.out _ B1.out)) ?_); rintro e w2 ⟨rfl, hb2⟩; have B2 : Hid (Below w.heap.size w w2) := btr B1.out hb2; have KA2 : w2.heap[w.heap.size]? = some (.cells #[.string af, .string ad, .int .i64 aa, .int .i64 ax, .int .i64 al, .int .i64 ae, .slice ob bad.length cb] 39 (0, 0)) := (hb2.block _ (lt_of_heap KK.out)).trans KK.out; obtain ⟨b0, b1, b2, b3, b4, b5, b6⟩ := ask_cells KA2; clear hb2 KA2)
            | (go_at_call 133; (with_reducible refine Calls.mono (right_num _ _) ?_); rintro e w3 ⟨rfl, rfl⟩))
          go_ret2
          exact OfPost.no (by repeat (first | exact B2.out | refine bdN ?_ _ | refine Below.drew ?_)) HV.out (by decide)
set_option maxRecDepth 100000 in
set_option maxHeartbeats 8000000 in
theorem of_early3 (oe : Option Addr) (E : List Edg) (ce : Nat) (op : Option Addr) (P : List Plc) (cp : Nat) (A : AskR) (ob : Option Addr) (cb : Nat) (w : World) (hs1 : A.frm.size ≤ maxLen) (hs2 : A.dst.size ≤ maxLen) (hL : LibOk w)
    (c1 : ¬ (256 < E.length ∨ 512 < P.length ∨ 256 < A.bad.length)) (c2 : ¬ (isKey A.frm = false ∨ isKey A.dst = false ∨ A.frm = A.dst ∨ timeB A.exp = false ∨ timeB A.latest = false)) (c3 : A.amt < 1 ∨ 2100000000000000000 < A.amt ∨ A.fee < 0 ∨ 2100000000000000000 < A.fee) : Calls Tryz.prog 77 #[.slice oe E.length ce, .slice op P.length cp, askV A ob cb] w (OfPost E P A w) := by
  obtain ⟨af, ad, aa, ax, al, ae, bad⟩ := A
  have HEF := Lib.hid (fun W (hW : LibOk W) => isKey_any af W hs1 hW)
  have HED := Lib.hid (fun W (hW : LibOk W) => isKey_any ad W hs2 hW)
  have HLL : Hid (∀ W, Below w.heap.size w W → LibOk W) := fun W h => hL.below h
  clear hL hs1 hs2
  show Calls Tryz.prog 77 #[.slice oe E.length ce, .slice op P.length cp, .agg #[.string af, .string ad, .int .i64 aa, .int .i64 ax, .int .i64 al, .int .i64 ae, .slice ob bad.length cb]] w _
  have HV : Hid (refusedN isKey E P ⟨af, ad, aa, ax, al, ae, bad⟩ = 40) := by show _ = _; rw [early_ref]; unfold earlyN; rw [if_neg c1, if_neg c2, if_pos c3]; rfl
  dsimp only at c1 c2 c3
  have d1 : decide ((256 : Int) < (E.length : Int)) = false := decide_eq_false (by omega)
  have d2 : decide ((512 : Int) < (P.length : Int)) = false := decide_eq_false (by omega)
  have d3 : decide ((256 : Int) < (bad.length : Int)) = false := decide_eq_false (by omega)
  clear c1
  have k1 : isKey af = true := by cases h : isKey af; exact absurd (.inl h) c2; rfl
  have k2 : isKey ad = true := by cases h : isKey ad; exact absurd (.inr (.inl h)) c2; rfl
  have q1 := toList_ne (fun h => c2 (.inr (.inr (.inl h))) : af ≠ ad)
  have s1 := shr_ok ax (by cases h : timeB ax; exact absurd (.inr (.inr (.inr (.inl h)))) c2; rfl)
  have s2 := shr_ok al (by cases h : timeB al; exact absurd (.inr (.inr (.inr (.inr h)))) c2; rfl)
  rw [k1] at HEF
  rw [k2] at HED
  clear c2 k1 k2
  by_cases g1 : aa < 1
  · have e1 : decide (aa < 1) = true := decide_eq_true g1
    clear c3 g1
    go_enter Tryz.func77, Tryz.ntmps77
    go_wp2_with (first
            | (go_at_call 132; (with_reducible refine Calls.mono (HEF.out _ (HLL.out _ (by repeat (first | exact below_new' _ _ | refine bdN ?_ _ | refine Below.drew ?_)))) ?_); rintro e w1 ⟨rfl, hb1⟩; have B1 : Hid (Below w.heap.size w w1) := btr (by repeat (first | exact below_new' _ _ | refine bdN ?_ _ | refine Below.drew ?_)) hb1; have KA1 : w1.heap[w.heap.size]? = some (.cells #[.string af, .string ad, .int .i64 aa, .int .i64 ax, .int .i64 al, .int .i64 ae, .slice ob bad.length cb] 39 (0, 0)) := (hb1.block _ (by simp)).trans (heap_alloc_at _ _); obtain ⟨a0, a1, a2, a3, a4, a5, a6⟩ := ask_cells KA1; have KK := Lib.hid KA1; clear hb1 KA1)
            | (go_at_call 132; (with_reducible refine Calls.mono (HED.out _ (HLL.out _ B1.out)) ?_); rintro e w2 ⟨rfl, hb2⟩; have B2 : Hid (Below w.heap.size w w2) := btr B1.out hb2; have KA2 : w2.heap[w.heap.size]? = some (.cells #[.string af, .string ad, .int .i64 aa, .int .i64 ax, .int .i64 al, .int .i64 ae, .slice ob bad.length cb] 39 (0, 0)) := (hb2.block _ (lt_of_heap KK.out)).trans KK.out; obtain ⟨b0, b1, b2, b3, b4, b5, b6⟩ := ask_cells KA2; clear hb2 KA2)
            | (go_at_call 133; (with_reducible refine Calls.mono (right_num _ _) ?_); rintro e w3 ⟨rfl, rfl⟩))
    go_ret2
    exact OfPost.no (by repeat (first | exact B2.out | refine bdN ?_ _ | refine Below.drew ?_)) HV.out (by decide)
  · have e1 : decide (aa < 1) = false := decide_eq_false g1
    by_cases g2 : 2100000000000000000 < aa
    · have e2 : Mny.rightB aa = false := Mny.rightB_f (by omega)
      clear c3 g1 g2
      go_enter Tryz.func77, Tryz.ntmps77
      go_wp2_with (first
            | (go_at_call 132; (with_reducible refine Calls.mono (HEF.out _ (HLL.out _ (by repeat (first | exact below_new' _ _ | refine bdN ?_ _ | refine Below.drew ?_)))) ?_); rintro e w1 ⟨rfl, hb1⟩; have B1 : Hid (Below w.heap.size w w1) := btr (by repeat (first | exact below_new' _ _ | refine bdN ?_ _ | refine Below.drew ?_)) hb1; have KA1 : w1.heap[w.heap.size]? = some (.cells #[.string af, .string ad, .int .i64 aa, .int .i64 ax, .int .i64 al, .int .i64 ae, .slice ob bad.length cb] 39 (0, 0)) := (hb1.block _ (by simp)).trans (heap_alloc_at _ _); obtain ⟨a0, a1, a2, a3, a4, a5, a6⟩ := ask_cells KA1; have KK := Lib.hid KA1; clear hb1 KA1)
            | (go_at_call 132; (with_reducible refine Calls.mono (HED.out _ (HLL.out _ B1.out)) ?_); rintro e w2 ⟨rfl, hb2⟩; have B2 : Hid (Below w.heap.size w w2) := btr B1.out hb2; have KA2 : w2.heap[w.heap.size]? = some (.cells #[.string af, .string ad, .int .i64 aa, .int .i64 ax, .int .i64 al, .int .i64 ae, .slice ob bad.length cb] 39 (0, 0)) := (hb2.block _ (lt_of_heap KK.out)).trans KK.out; obtain ⟨b0, b1, b2, b3, b4, b5, b6⟩ := ask_cells KA2; clear hb2 KA2)
            | (go_at_call 133; (with_reducible refine Calls.mono (right_num _ _) ?_); rintro e w3 ⟨rfl, rfl⟩))
      go_ret2
      exact OfPost.no (by repeat (first | exact B2.out | refine bdN ?_ _ | refine Below.drew ?_)) HV.out (by decide)
    · have e2 : Mny.rightB aa = true := Mny.rightB_t (by omega) (by omega)
      have e3 : Mny.rightB ae = false := Mny.rightB_f (by omega)
      clear c3 g1 g2
      go_enter Tryz.func77, Tryz.ntmps77
      go_wp2_with (first
            | (go_at_call 132; (with_reducible refine Calls.mono (HEF.out _ (HLL.out _ (by repeat (first | exact below_new' _ _ | refine bdN ?_ _ | refine Below.drew ?_)))) ?_); rintro e w1 ⟨rfl, hb1⟩; have B1 : Hid (Below w.heap.size w w1) := btr (by repeat (first | exact below_new' _ _ | refine bdN ?_ _ | refine Below.drew ?_)) hb1; have KA1 : w1.heap[w.heap.size]? = some (.cells #[.string af, .string ad, .int .i64 aa, .int .i64 ax, .int .i64 al, .int .i64 ae, .slice ob bad.length cb] 39 (0, 0)) := (hb1.block _ (by simp)).trans (heap_alloc_at _ _); obtain ⟨a0, a1, a2, a3, a4, a5, a6⟩ := ask_cells KA1; have KK := Lib.hid KA1; clear hb1 KA1)
            | (go_at_call 132; (with_reducible refine Calls.mono (HED.out _ (HLL.out _ B1.out)) ?_); rintro e w2 ⟨rfl, hb2⟩; have B2 : Hid (Below w.heap.size w w2) := btr B1.out hb2; have KA2 : w2.heap[w.heap.size]? = some (.cells #[.string af, .string ad, .int .i64 aa, .int .i64 ax, .int .i64 al, .int .i64 ae, .slice ob bad.length cb] 39 (0, 0)) := (hb2.block _ (lt_of_heap KK.out)).trans KK.out; obtain ⟨b0, b1, b2, b3, b4, b5, b6⟩ := ask_cells KA2; clear hb2 KA2)
            | (go_at_call 133; (with_reducible refine Calls.mono (right_num _ _) ?_); rintro e w3 ⟨rfl, rfl⟩))
      go_ret2
      exact OfPost.no (by repeat (first | exact B2.out | refine bdN ?_ _ | refine Below.drew ?_)) HV.out (by decide)
end Go.Proofs.YtbdimlppnhcicaaGreatDoor
/- route: the net as it is laid -/
namespace Go.Proofs.YtbdimlppnhcicaaGreatDoor
set_option linter.unusedVariables false
open Go.RowKit Rte
/-! route: the net as it is laid -/
theorem own_put {w : World} {base E size n mm : Nat} {v : Value} {xs : List Value} {es es' : Array MapEntry} {c c' : Nat} (h : w.ownsRow base E size v n xs) (hm : w.heap[mm]? = some (.map es c)) : (putO w mm (.map es' c')).ownsRow base E size v n xs :=
  own_blocks h fun g hg => putO_other (by
    rintro rfl
    rcases h.2 with ⟨rfl, _⟩ | ⟨g', cap, cur, rfl, _, hgb, _⟩
    · cases hg
    · cases hg
      rw [hgb] at hm; cases hm)
theorem below_put {w W : World} {mm : Nat} {o : Obj} (h : Below w.heap.size w W) (hm : w.heap.size ≤ mm) : Below w.heap.size w (putO W mm o) :=
  ⟨h.os, h.tape, h.output, by simpa using h.size, fun k hk => (putO_other (by omega)).trans (h.block k hk)⟩
theorem NetS.next {base nb mm : Nat} {v : Value} {L : List Plc} {Ws : List WayE} {W W' : World} (h : NetS base nb mm v L Ws W) (hb : Below W.heap.size W W') : NetS base nb mm v L Ws W' := by
  obtain ⟨es, c, hm, hl⟩ := h.m
  exact { h with
    n := (hb.block nb (lt_of_heap h.n)).trans h.n
    m := ⟨es, c, (hb.block mm (lt_of_heap hm)).trans hm, hl⟩
    own := own_below h.own hb }
theorem NetS.put {base nb mm : Nat} {v : Value} {L : List Plc} {Ws : List WayE} {W : World} (h : NetS base nb mm v L Ws W) {es : Array MapEntry} {c : Nat} {L' : List Plc} (hl : LiesG kvP es.toList L') : NetS base nb mm v L' Ws (putO W mm (.map es c)) := by
  obtain ⟨es0, c0, hm, hl0⟩ := h.m
  exact { h with
    n := (putO_other h.ne).trans h.n
    m := ⟨es, c, putO_same hm, hl⟩
    own := own_put h.own hm }
theorem NetS.putK {base nb mm bm : Nat} {v : Value} {L : List Plc} {Ws : List WayE} {W : World} (h : NetS base nb mm v L Ws W) {es es' : Array MapEntry} {c c' : Nat} (hb : W.heap[bm]? = some (.map es c)) (hne : bm ≠ mm) : NetS base nb mm v L Ws (putO W bm (.map es' c')) := by
  obtain ⟨es0, c0, hm, hl0⟩ := h.m
  exact { h with
    n := (putO_other (by rintro rfl; rw [h.n] at hb; cases hb)).trans h.n
    m := ⟨es0, c0, (putO_other hne.symm).trans hm, hl0⟩
    own := own_put h.own hb }
/-- what is known while the net is laid -/
structure OfS (w : World) (ask : Array Value) (nb mm : Nat) (v : Value) (L : List Plc) (Ws : List WayE) (W : World) : Prop where
  bel : Below w.heap.size w W
  box : W.heap[w.heap.size]? = some (.cells ask 39 (0, 0))
  net : NetS w.heap.size nb mm v L Ws W
theorem OfS.next {w : World} {ask : Array Value} {nb mm : Nat} {v : Value} {L : List Plc} {Ws : List WayE} {W W' : World} (h : OfS w ask nb mm v L Ws W) (hb : Below W.heap.size W W') : OfS w ask nb mm v L Ws W' :=
  ⟨btr h.bel hb, (hb.block _ (lt_of_heap h.box)).trans h.box, h.net.next hb⟩
theorem OfS.put {w : World} {ask : Array Value} {nb mm : Nat} {v : Value} {L : List Plc} {Ws : List WayE} {W : World} (h : OfS w ask nb mm v L Ws W) {es : Array MapEntry} {c : Nat} {L' : List Plc} (hl : LiesG kvP es.toList L') : OfS w ask nb mm v L' Ws (putO W mm (.map es c)) := by
  obtain ⟨es0, c0, hm, hl0⟩ := h.net.m
  exact ⟨below_put h.bel h.net.h2, (putO_other (by rintro e; rw [← e, h.box] at hm; cases hm)).trans h.box, h.net.put hl⟩
theorem OfS.putK {w : World} {ask : Array Value} {nb mm bm : Nat} {v : Value} {L : List Plc} {Ws : List WayE} {W : World} (h : OfS w ask nb mm v L Ws W) {es es' : Array MapEntry} {c c' : Nat} (hb : W.heap[bm]? = some (.map es c)) (hne : bm ≠ mm) (h1 : w.heap.size ≤ bm) : OfS w ask nb mm v L Ws (putO W bm (.map es' c')) :=
  ⟨below_put h.bel h1, (putO_other (by rintro e; rw [← e, h.box] at hb; cases hb)).trans h.box, h.net.putK hb hne⟩
/-- the net that was just made -/
theorem OfS.new {w W : World} {ask : Array Value} (h : Below w.heap.size w W) (hbox : W.heap[w.heap.size]? = some (.cells ask 39 (0, 0))) : OfS w ask (W.heap.size + 1) W.heap.size (.slice none 0 0) [] [] ((W.alloc (.map #[] 0)).alloc (.cells #[.slice none 0 0, .map (some W.heap.size)] 145)) := by
  have hb2 : Below W.heap.size W ((W.alloc (.map #[] 0)).alloc (.cells #[.slice none 0 0, .map (some W.heap.size)] 145)) := ((Below.refl _ _).alloc (Nat.le_refl _) _).alloc (by simp) _
  have hs := h.size
  refine ⟨btr h hb2, (hb2.block _ (lt_of_heap hbox)).trans hbox, ⟨?_, ⟨#[], 0, ?_, rfl⟩, ⟨rfl, .inl ⟨rfl, rfl⟩⟩, by omega, by omega, by omega⟩⟩
  · have := heap_alloc_at (W.alloc (.map #[] 0)) (.cells #[.slice none 0 0, .map (some W.heap.size)] 145)
    simpa using this
  · rw [heap_alloc_old _ _ (by simp)]
    exact heap_alloc_at W _
end Go.Proofs.YtbdimlppnhcicaaGreatDoor
/- route: two ways more -/
namespace Go.Proofs.YtbdimlppnhcicaaGreatDoor
set_option linter.unusedVariables false
open Go.RowKit Rte
/-! route: two ways more -/
theorem own_cellsB {w : World} {base E size n g : Nat} {v : Value} {xs : List Value} (h : w.ownsRow base E size v n xs) (hg : v.ownBlock = some g) : base ≤ g ∧ ∃ cur, w.heap[g]? = some (.cells cur E (0, 0)) := by
  rcases h.2 with ⟨rfl, _⟩ | ⟨g', cap, cur, rfl, hb, hgb, _⟩
  · cases hg
  · cases hg; exact ⟨hb, cur, hgb⟩
theorem OfS.grow {w : World} {ask : Array Value} {nb mm : Nat} {v v' : Value} {L : List Plc} {Ws : List WayE} {W w7 : World} {tmp : Obj} {x1 x2 : WayE} (h : OfS w ask nb mm v L Ws W) (hg : ((W.alloc tmp).drew).grownBy w7 v.ownBlock)
    (ho : w7.ownsRow w.heap.size 147 6 v' (Ws.length + 2) (waysC Ws ++ (wayC x1 ++ wayC x2))) : OfS w ask nb mm v' L (Ws ++ [x1, x2]) (w7.setCell ⟨nb, 0, none⟩ v') := by
  have hk : ∀ k, k < W.heap.size → v.ownBlock ≠ some k → w7.heap[k]? = W.heap[k]? := fun k hk hne => (hg.block k (by simp; omega) (fun e => hne e.symm)).trans (heap_alloc_old W tmp hk)
  obtain ⟨es, c, hm, hl⟩ := h.net.m
  have hn7 : w7.heap[nb]? = some (.cells #[v, .map (some mm)] 145 (0, 0)) := (hk nb (lt_of_heap h.net.n) (fun e => by obtain ⟨_, cur, hc⟩ := own_cellsB h.net.own e; rw [h.net.n] at hc; cases hc)).trans h.net.n
  have hm7 : w7.heap[mm]? = some (.map es c) := (hk mm (lt_of_heap hm) (fun e => by obtain ⟨_, cur, hc⟩ := own_cellsB h.net.own e; rw [hm] at hc; cases hc)).trans hm
  have hb7 : w7.heap[w.heap.size]? = some (.cells ask 39 (0, 0)) := (hk _ (lt_of_heap h.box) (fun e => by obtain ⟨_, cur, hc⟩ := own_cellsB h.net.own e; rw [h.box] at hc; cases hc)).trans h.box
  have hne1 : w.heap.size ≠ nb := by rintro e; rw [e, hn7] at hb7; cases hb7
  refine ⟨⟨?_, ?_, ?_, ?_, ?_⟩, (heap_setCell_other _ _ _ _ hne1).trans hb7, ⟨?_, ⟨es, c, (heap_setCell_other _ _ _ _ (by rintro rfl; rw [hn7] at hm7; cases hm7)).trans hm7, hl⟩, ?_, h.net.h1, h.net.h2, h.net.ne⟩⟩
  · show w7.os = w.os; exact hg.os.trans h.bel.os
  · show w7.tape = w.tape; exact hg.tape.trans h.bel.tape
  · show w7.output = w.output; exact hg.output.trans h.bel.output
  · have := h.bel.size; have := hg.size; simp at this ⊢; omega
  · intro k hkk
    have h1 := h.net.h1
    have hs := h.bel.size
    rw [heap_setCell_other _ _ _ _ (show k ≠ nb by omega), hk k (by omega) (fun e => by obtain ⟨hb, _⟩ := own_cellsB h.net.own e; omega), h.bel.block k hkk]
  · rw [heap_setCell_same _ _ _ _ _ _ hn7]; rfl
  · have := own_blocks (w' := w7.setCell ⟨nb, 0, none⟩ v') ho fun g hgg => heap_setCell_other _ _ _ _ (by
      rintro rfl
      obtain ⟨_, cur, hc⟩ := own_cellsB ho hgg
      rw [hn7] at hc; cases hc)
    have e1 : waysC (Ws ++ [x1, x2]) = waysC Ws ++ (wayC x1 ++ wayC x2) := by unfold waysC; simp
    rw [e1, List.length_append]
    exact this
/-- another block stays as the net's row grows -/
theorem OfS.stay {w : World} {ask : Array Value} {nb mm k : Nat} {v v' : Value} {L : List Plc} {Ws : List WayE} {W w7 : World} {tmp o : Obj} (h : OfS w ask nb mm v L Ws W) (hg : ((W.alloc tmp).drew).grownBy w7 v.ownBlock) (ho : W.heap[k]? = some o) (h1 : ∀ cs, o ≠ .cells cs 147 (0, 0)) (h2 : k ≠ nb) : (w7.setCell ⟨nb, 0, none⟩ v').heap[k]? = some o := by
  rw [heap_setCell_other _ _ _ _ h2, hg.block k (by simp; have := lt_of_heap ho; omega) (fun e => ?_)]
  · exact (heap_alloc_old W tmp (lt_of_heap ho)).trans ho
  · obtain ⟨_, cur, hc⟩ := own_cellsB h.net.own e.symm
    rw [ho] at hc
    exact h1 cur (Option.some.inj hc)
theorem OfS.netrow {w : World} {ask : Array Value} {nb mm : Nat} {v : Value} {L : List Plc} {Ws : List WayE} {W w7 : World} {tmp : Obj} (h : OfS w ask nb mm v L Ws W) (hg : ((W.alloc tmp).drew).grownBy w7 v.ownBlock) : w7.heap[nb]? = some (.cells #[v, .map (some mm)] 145 (0, 0)) := by
  rw [hg.block nb (by simp; have := lt_of_heap h.net.n; omega) (fun e => ?_)]
  · exact (heap_alloc_old W tmp (lt_of_heap h.net.n)).trans h.net.n
  · obtain ⟨_, cur, hc⟩ := own_cellsB h.net.own e.symm
    rw [h.net.n] at hc; cases hc
theorem Tryz.info147 : (Tryz.prog.info? 147).map (fun i => (i.zero, i.size, i.bytes)) = some (some (.agg #[.string ⟨#[]⟩, .string ⟨#[]⟩, .string ⟨#[]⟩, .int .i64 0, .string ⟨#[]⟩, .string ⟨#[]⟩]), 6, 88) := by kernel_rfl
end Go.Proofs.YtbdimlppnhcicaaGreatDoor
/- route: the net is laid -/
namespace Go.Proofs.YtbdimlppnhcicaaGreatDoor
set_option linter.unusedVariables false
open Go.RowKit Rte
/-! route: the net is laid -/
def min2 (x y : Int) : Int := if y < x then y else x
theorem run_min4 (x y z u : Int) (W : World) : (Builtin.min_ #[2, 2, 2, 2] 2 #[.int .i64 x, .int .i64 y, .int .i64 z, .int .i64 u]).run Tryz.prog W = .ok (.int .i64 (min2 (min2 (min2 x y) z) u)) W := by
  simp [Builtin.min_, Builtin.min2, min2]
  rfl
theorem min4_neg (x y z u : Int) : min2 (min2 (min2 x y) z) u < 0 ↔ x < 0 ∨ y < 0 ∨ z < 0 ∨ u < 0 := by
  have h : ∀ a b : Int, min2 a b < 0 ↔ a < 0 ∨ b < 0 := fun a b => by unfold min2; split <;> omega
  rw [h, h, h]; simp only [or_assoc]
theorem cells4_set {W : World} {qb nb : Nat} {v a b c d : Value} (hqn : qb ≠ nb) (h : W.cell? ⟨qb, 0, none⟩ = some a ∧ W.cell? ⟨qb, 1, none⟩ = some b ∧ W.cell? ⟨qb, 2, none⟩ = some c ∧ W.cell? ⟨qb, 3, none⟩ = some d) :
    (W.setCell ⟨nb, 0, none⟩ v).cell? ⟨qb, 0, none⟩ = some a ∧ (W.setCell ⟨nb, 0, none⟩ v).cell? ⟨qb, 1, none⟩ = some b ∧ (W.setCell ⟨nb, 0, none⟩ v).cell? ⟨qb, 2, none⟩ = some c ∧ (W.setCell ⟨nb, 0, none⟩ v).cell? ⟨qb, 3, none⟩ = some d := by
  have hk : ∀ k, (W.setCell ⟨nb, 0, none⟩ v).cell? ⟨qb, k, none⟩ = W.cell? ⟨qb, k, none⟩ := fun k => World.cell?_of_block (heap_setCell_other _ _ _ _ hqn)
  rw [hk, hk, hk, hk]; exact h
theorem cells4_alloc {W : World} {qb : Nat} {o : Obj} {a b c d : Value} (hl : qb < W.heap.size) (h : W.cell? ⟨qb, 0, none⟩ = some a ∧ W.cell? ⟨qb, 1, none⟩ = some b ∧ W.cell? ⟨qb, 2, none⟩ = some c ∧ W.cell? ⟨qb, 3, none⟩ = some d) :
    (W.drew.alloc o).cell? ⟨qb, 0, none⟩ = some a ∧ (W.drew.alloc o).cell? ⟨qb, 1, none⟩ = some b ∧ (W.drew.alloc o).cell? ⟨qb, 2, none⟩ = some c ∧ (W.drew.alloc o).cell? ⟨qb, 3, none⟩ = some d := by
  have hk : ∀ k, (W.drew.alloc o).cell? ⟨qb, k, none⟩ = W.cell? ⟨qb, k, none⟩ := fun k => World.cell?_of_block (heap_alloc_old W.drew o hl)
  rw [hk, hk, hk, hk]; exact h
theorem OfS.edge4 {w : World} {ask : Array Value} {nb mm qb : Nat} {v : Value} {L : List Plc} {Ws : List WayE} {W w7 : World} {tmp : Obj} {a b c d : Value} (h : OfS w ask nb mm v L Ws W) (hg : ((W.alloc tmp).drew).grownBy w7 v.ownBlock) (hk : W.heap[qb]? = some (.cells #[a, b, c, d] 51 (0, 0))) :
    w7.cell? ⟨qb, 0, none⟩ = some a ∧ w7.cell? ⟨qb, 1, none⟩ = some b ∧ w7.cell? ⟨qb, 2, none⟩ = some c ∧ w7.cell? ⟨qb, 3, none⟩ = some d := by
  have h7 : w7.heap[qb]? = some (.cells #[a, b, c, d] 51 (0, 0)) := by
    rw [hg.block qb (by simp; have := lt_of_heap hk; omega) (fun e => ?_)]
    · exact (heap_alloc_old W tmp (lt_of_heap hk)).trans hk
    · obtain ⟨_, cur, hc⟩ := own_cellsB h.net.own e.symm
      rw [hk] at hc; cases hc
  refine ⟨?_, ?_, ?_, ?_⟩ <;> (rw [cell_of_row _ _ _ _ _ _ h7]; rfl)
set_option maxRecDepth 100000 in
set_option maxHeartbeats 8000000 in
theorem of_late (oe : Option Addr) (E : List Edg) (ce : Nat) (op : Option Addr) (P : List Plc) (cp : Nat) (A : AskR) (ob : Option Addr) (cb : Nat) (w : World) (hs1 : A.frm.size ≤ maxLen) (hs2 : A.dst.size ≤ maxLen) (hL : LibOk w)
    (hE : RowsAt 4 edgC oe E w) (hP : RowsAt 9 plcC op P w) (hB : StrsAt ob A.bad w) (c0 : earlyN E P A = 0) : Calls Tryz.prog 77 #[.slice oe E.length ce, .slice op P.length cp, askV A ob cb] w (OfPost E P A w) := by
  obtain ⟨af, ad, aa, ax, al, ae, bad⟩ := A
  have HEF := Lib.hid (fun W (hW : LibOk W) => isKey_any af W hs1 hW)
  have HED := Lib.hid (fun W (hW : LibOk W) => isKey_any ad W hs2 hW)
  have HLL : Hid (∀ W, Below w.heap.size w W → LibOk W) := fun W h => hL.below h
  have hr := early_ref E P ⟨af, ad, aa, ax, al, ae, bad⟩
  rw [c0, if_neg (by decide)] at hr
  have HR := Lib.hid hr
  clear hL hs1 hs2 hr
  have c1 : ¬ (256 < E.length ∨ 512 < P.length ∨ 256 < bad.length) := by
    intro h; unfold earlyN at c0; rw [if_pos h] at c0; cases c0
  have c2 : ¬ (isKey af = false ∨ isKey ad = false ∨ af = ad ∨ timeB ax = false ∨ timeB al = false) := by
    intro h; unfold earlyN at c0; rw [if_neg c1, if_pos h] at c0; cases c0
  have c3 : ¬ (aa < 1 ∨ 2100000000000000000 < aa ∨ ae < 0 ∨ 2100000000000000000 < ae) := by
    intro h; unfold earlyN at c0; rw [if_neg c1, if_neg c2, if_pos h] at c0; cases c0
  clear c0
  have hl1 : E.length ≤ 256 := by omega
  have hl2 : P.length ≤ 512 := by omega
  have hl3 : bad.length ≤ 256 := by omega
  have HL1 := Lib.hid hl1; have HL2 := Lib.hid hl2; have HL3 := Lib.hid hl3
  have d1 : decide ((256 : Int) < (E.length : Int)) = false := decide_eq_false (by omega)
  have d2 : decide ((512 : Int) < (P.length : Int)) = false := decide_eq_false (by omega)
  have d3 : decide ((256 : Int) < (bad.length : Int)) = false := decide_eq_false (by omega)
  have k1 : isKey af = true := by cases h : isKey af; exact absurd (.inl h) c2; rfl
  have k2 : isKey ad = true := by cases h : isKey ad; exact absurd (.inr (.inl h)) c2; rfl
  have q1 := toList_ne (fun h => c2 (.inr (.inr (.inl h))) : af ≠ ad)
  have s1 := shr_ok ax (by cases h : timeB ax; exact absurd (.inr (.inr (.inr (.inl h)))) c2; rfl)
  have s2 := shr_ok al (by cases h : timeB al; exact absurd (.inr (.inr (.inr (.inr h)))) c2; rfl)
  have e1 : decide (aa < 1) = false := decide_eq_false (by omega)
  have e2 : Mny.rightB aa = true := Mny.rightB_t (by omega) (by omega)
  have e3 : Mny.rightB ae = true := Mny.rightB_t (by omega) (by omega)
  rw [k1] at HEF
  rw [k2] at HED
  have HPP := Lib.hid hP; have HEE := Lib.hid hE; have HBB := Lib.hid hB
  clear c1 c2 c3 k1 k2 hl1 hl2 hl3 hP hE hB
  have hmm := @run_makeMap Tryz.prog
  show Calls Tryz.prog 77 #[.slice oe E.length ce, .slice op P.length cp, .agg #[.string af, .string ad, .int .i64 aa, .int .i64 ax, .int .i64 al, .int .i64 ae, .slice ob bad.length cb]] w _
  go_enter Tryz.func77, Tryz.ntmps77
  go_wp2_with (first
            | (go_at_call 132; (with_reducible refine Calls.mono (HEF.out _ (HLL.out _ (by repeat (first | exact below_new' _ _ | refine bdN ?_ _ | refine Below.drew ?_)))) ?_); rintro e w1 ⟨rfl, hb1⟩; have B1 : Hid (Below w.heap.size w w1) := btr (by repeat (first | exact below_new' _ _ | refine bdN ?_ _ | refine Below.drew ?_)) hb1; have KA1 : w1.heap[w.heap.size]? = some (.cells #[.string af, .string ad, .int .i64 aa, .int .i64 ax, .int .i64 al, .int .i64 ae, .slice ob bad.length cb] 39 (0, 0)) := (hb1.block _ (by simp)).trans (heap_alloc_at _ _); obtain ⟨a0, a1, a2, a3, a4, a5, a6⟩ := ask_cells KA1; have KK := Lib.hid KA1; clear hb1 KA1)
            | (go_at_call 132; (with_reducible refine Calls.mono (HED.out _ (HLL.out _ B1.out)) ?_); rintro e w2 ⟨rfl, hb2⟩; have B2 : Hid (Below w.heap.size w w2) := btr B1.out hb2; have KA2 : w2.heap[w.heap.size]? = some (.cells #[.string af, .string ad, .int .i64 aa, .int .i64 ax, .int .i64 al, .int .i64 ae, .slice ob bad.length cb] 39 (0, 0)) := (hb2.block _ (lt_of_heap KK.out)).trans KK.out; obtain ⟨b0, b1, b2, b3, b4, b5, b6⟩ := ask_cells KA2; have KK2 := Lib.hid KA2; clear hb2 KA2)
            | (go_at_call 133; (with_reducible refine Calls.mono (right_num _ _) ?_); rintro e w3 ⟨rfl, rfl⟩))
  have HS := Lib.hid (OfS.new B2.out KK2.out)
  clear a0 a1 a2 a3 a4 a5 a6 b0 b1 b2 b3 b4 b5 b6 KK KK2 B1 B2 HEF HED q1 s1 s2 e1 e2 e3 d1 d2 d3 hmm
  generalize ((w3.alloc (.map #[] 0)).alloc (.cells #[.slice none 0 0, .map (some w3.heap.size)] 145)) = w4 at HS ⊢
  generalize w3.heap.size + 1 = nb at HS ⊢
  generalize w3.heap.size = mm at HS ⊢
  go_loopw [87] (fun iv wr => ∃ i : Nat, i ≤ P.length ∧ iv = .int .i64 i ∧ Hid (OfS w #[.string af, .string ad, .int .i64 aa, .int .i64 ax, .int .i64 al, .int .i64 ae, .slice ob bad.length cb] nb mm (.slice none 0 0) ((P.take i).foldl addP []) [] wr) ∧ Hid ((P.take i).any plcBad = false)) (fun iv _ => P.length - (intOf iv).toNat)
  case atStart => exact ⟨0, Nat.zero_le _, rfl, HS.out, rfl⟩
  case round =>
    obtain ⟨i, hi, rfl, hS, hN⟩ := hrel
    have hi2 := HL2.out
    by_cases hlt : i < P.length
    · obtain ⟨p, hp⟩ : ∃ p, P[i]? = some p := ⟨_, List.getElem?_eq_getElem hlt⟩
      obtain ⟨lb, lf, rfl, hc⟩ := rows_at HPP.out hp
      have z0 : wr.cell? ⟨lb, lf + i * 9, none⟩ = some (.string p.chan) := cell_later' hS.out.bel (hc 0 _ rfl)
      have z1 : wr.cell? ⟨lb, lf + i * 9 + 1, none⟩ = some (.string p.frm) := cell_later' hS.out.bel (hc 1 _ rfl)
      have z2 : wr.cell? ⟨lb, lf + i * 9 + 2, none⟩ = some (.int .i64 p.stamp) := cell_later' hS.out.bel (hc 2 _ rfl)
      have z3 : wr.cell? ⟨lb, lf + i * 9 + 3, none⟩ = some (.int .i64 p.base) := cell_later' hS.out.bel (hc 3 _ rfl)
      have z4 : wr.cell? ⟨lb, lf + i * 9 + 4, none⟩ = some (.int .i64 p.rate) := cell_later' hS.out.bel (hc 4 _ rfl)
      have z5 : wr.cell? ⟨lb, lf + i * 9 + 5, none⟩ = some (.int .i64 p.delta) := cell_later' hS.out.bel (hc 5 _ rfl)
      have z6 : wr.cell? ⟨lb, lf + i * 9 + 6, none⟩ = some (.int .i64 p.min) := cell_later' hS.out.bel (hc 6 _ rfl)
      have z7 : wr.cell? ⟨lb, lf + i * 9 + 7, none⟩ = some (.int .i64 p.max) := cell_later' hS.out.bel (hc 7 _ rfl)
      have z8 : wr.cell? ⟨lb, lf + i * 9 + 8, none⟩ = some (.bool p.off) := cell_later' hS.out.bel (hc 8 _ rfl)
      have hii : (i : Int) < (P.length : Int) := by omega
      have hii2 : (P.length : Int) ≤ 512 := by omega
      clear hc hi2
      have hm4 := fun W => run_min4 p.base p.rate p.min p.max W
      have hmn := min4_neg p.base p.rate p.min p.max
      generalize min2 (min2 (min2 p.base p.rate) p.min) p.max = m4 at hm4 hmn
      by_cases hbd : plcBad p = true
      · have HV : Hid (refusedN isKey E P ⟨af, ad, aa, ax, al, ae, bad⟩ = 2) := by
          show _ = _
          rw [HR.out, if_pos (List.any_eq_true.2 ⟨p, List.mem_of_getElem? hp, hbd⟩)]
        have hok : p.base < 0 ∨ p.rate < 0 ∨ p.min < 0 ∨ p.max < 0 ∨ ¬ (0 ≤ p.delta ∧ p.delta < 2147483648) := by unfold plcBad at hbd; exact of_decide_eq_true hbd
        by_cases hm0 : m4 < 0
        · have dm : decide (m4 < 0) = true := decide_eq_true hm0
          clear hok hmn hbd hm0
          go_wp2_with fail
          go_ret2
          exact OfPost.no (by repeat (first | exact btr hS.out.bel (below_new' _ _) | refine bdN ?_ _ | refine Below.drew ?_)) HV.out (by decide)
        · have dm : decide (m4 < 0) = false := decide_eq_false hm0
          have ds := shr_bad p.delta (time_not (fun h => by have := (time_iff _).1 h; rw [hmn] at hm0; omega))
          clear hok hmn hbd hm0
          go_wp2_with fail
          go_ret2
          exact OfPost.no (by repeat (first | exact btr hS.out.bel (below_new' _ _) | refine bdN ?_ _ | refine Below.drew ?_)) HV.out (by decide)
      · have hbf : plcBad p = false := by cases h : plcBad p; rfl; exact absurd h hbd
        have hok : ¬ (p.base < 0 ∨ p.rate < 0 ∨ p.min < 0 ∨ p.max < 0 ∨ ¬ (0 ≤ p.delta ∧ p.delta < 2147483648)) := by unfold plcBad at hbf; exact of_decide_eq_false hbf
        have dm : decide (m4 < 0) = false := decide_eq_false (by rw [hmn]; intro h; exact hok (by omega))
        have ds := shr_ok p.delta ((time_iff _).2 (by omega))
        have HBF := Lib.hid hbf
        clear hok hmn hbd hbf
        go_wp2_with fail
        clear z0 z1 z2 z3 z4 z5 z6 z7 z8 hm4 dm ds
        obtain ⟨L, hL⟩ : ∃ L, (P.take i).foldl addP [] = L := ⟨_, rfl⟩
        rw [hL] at hS
        have htk : P.take (i + 1) = P.take i ++ [p] := by rw [List.take_add_one, hp]; rfl
        have HSTEP : Hid ((P.take (i + 1)).foldl addP [] = addP L p) := by show _ = _; rw [htk, List.foldl_append, hL]; rfl
        have HBAD : Hid ((P.take (i + 1)).any plcBad = false) := by show _ = _; rw [htk, List.any_append, hN.out]; simp [HBF.out]
        clear hL htk
        have hb5 : Below wr.heap.size wr (wr.alloc (.cells #[.string p.chan, .string p.frm, .int .i64 p.stamp, .int .i64 p.base, .int .i64 p.rate, .int .i64 p.delta, .int .i64 p.min, .int .i64 p.max, .bool p.off] 53)) := below_new' wr _
        have HS5 : Hid (OfS w #[.string af, .string ad, .int .i64 aa, .int .i64 ax, .int .i64 al, .int .i64 ae, .slice ob bad.length cb] nb mm (.slice none 0 0) L [] (wr.alloc (.cells #[.string p.chan, .string p.frm, .int .i64 p.stamp, .int .i64 p.base, .int .i64 p.rate, .int .i64 p.delta, .int .i64 p.min, .int .i64 p.max, .bool p.off] 53))) := hS.out.next hb5
        have hkp : (wr.alloc (.cells #[.string p.chan, .string p.frm, .int .i64 p.stamp, .int .i64 p.base, .int .i64 p.rate, .int .i64 p.delta, .int .i64 p.min, .int .i64 p.max, .bool p.off] 53)).heap[wr.heap.size]? = some (.cells #[.string p.chan, .string p.frm, .int .i64 p.stamp, .int .i64 p.base, .int .i64 p.rate, .int .i64 p.delta, .int .i64 p.min, .int .i64 p.max, .bool p.off] 53 (0, 0)) := heap_alloc_at _ _
        clear hb5
        generalize (wr.alloc (.cells #[.string p.chan, .string p.frm, .int .i64 p.stamp, .int .i64 p.base, .int .i64 p.rate, .int .i64 p.delta, .int .i64 p.min, .int .i64 p.max, .bool p.off] 53)) = w5 at HS5 hkp ⊢
        generalize wr.heap.size = qb at hkp ⊢
        have HKP := Lib.hid hkp
        obtain ⟨es, c, hm, hl⟩ := HS5.out.net.m
        have n1 : w5.cell? ⟨nb, 1, none⟩ = some (.map (some mm)) := by rw [cell_of_row _ _ _ _ _ _ HS5.out.net.n]; rfl
        have x0 : w5.cell? ⟨qb, 0, none⟩ = some (.string p.chan) := by rw [cell_of_row _ _ _ _ _ _ hkp]; rfl
        have x1 : w5.cell? ⟨qb, 1, none⟩ = some (.string p.frm) := by rw [cell_of_row _ _ _ _ _ _ hkp]; rfl
        have hlk : ∀ W, W.heap[mm]? = some (.map es c) → (Instr.lookup 143 (.map (some mm)) (keyP p.chan p.frm) true).run Tryz.prog W = .ok (.tuple #[plcV ((polOf L p.chan p.frm).getD plcZ), .bool (polOf L p.chan p.frm).isSome]) W := fun W h => run_lookP p.chan p.frm es c mm L W hl h
        have hl1 := hlk w5.drew hm
        have hl2 := hlk (w5.alloc (.cells #[.string ⟨#[]⟩, .string ⟨#[]⟩, .int .i64 0, .int .i64 0, .int .i64 0, .int .i64 0, .int .i64 0, .int .i64 0, .bool false] 53)).drew ((heap_alloc_old _ _ (lt_of_heap hm)).trans hm)
        have l1 := lt_of_heap hkp
        have l2 := lt_of_heap HS5.out.net.n
        clear hlk hm hl hkp
        generalize hpo : polOf L p.chan p.frm = po at hl1 hl2
        have HPO := Lib.hid hpo
        clear hpo
        cases po with
        | none =>
          simp only [Option.getD_none, Option.isSome_none, plcZ] at hl1 hl2
          unfold keyP plcV at hl1 hl2
          dsimp only at hl1 hl2
          go_region
          all_goals (
            go_wp2_with fail
            have hbz : Below w5.heap.size w5 (w5.alloc (.cells #[.string ⟨#[]⟩, .string ⟨#[]⟩, .int .i64 0, .int .i64 0, .int .i64 0, .int .i64 0, .int .i64 0, .int .i64 0, .bool false] 53)).drew := (below_new' w5 _).drew
            have HS6 := Lib.hid (HS5.out.next hbz)
            have hk6 := (hbz.block qb (lt_of_heap HKP.out)).trans HKP.out
            clear hl1 hl2 l1 l2 n1 x0 x1 HKP HS5 hbz
            generalize (w5.alloc (.cells #[.string ⟨#[]⟩, .string ⟨#[]⟩, .int .i64 0, .int .i64 0, .int .i64 0, .int .i64 0, .int .i64 0, .int .i64 0, .bool false] 53)).drew = w6 at HS6 hk6 ⊢
            have n1 : w6.cell? ⟨nb, 1, none⟩ = some (.map (some mm)) := by rw [cell_of_row _ _ _ _ _ _ HS6.out.net.n]; rfl
            have x0 : w6.cell? ⟨qb, 0, none⟩ = some (.string p.chan) := by rw [cell_of_row _ _ _ _ _ _ hk6]; rfl
            have x1 : w6.cell? ⟨qb, 1, none⟩ = some (.string p.frm) := by rw [cell_of_row _ _ _ _ _ _ hk6]; rfl
            have x2 : w6.cell? ⟨qb, 2, none⟩ = some (.int .i64 p.stamp) := by rw [cell_of_row _ _ _ _ _ _ hk6]; rfl
            have x3 : w6.cell? ⟨qb, 3, none⟩ = some (.int .i64 p.base) := by rw [cell_of_row _ _ _ _ _ _ hk6]; rfl
            have x4 : w6.cell? ⟨qb, 4, none⟩ = some (.int .i64 p.rate) := by rw [cell_of_row _ _ _ _ _ _ hk6]; rfl
            have x5 : w6.cell? ⟨qb, 5, none⟩ = some (.int .i64 p.delta) := by rw [cell_of_row _ _ _ _ _ _ hk6]; rfl
            have x6 : w6.cell? ⟨qb, 6, none⟩ = some (.int .i64 p.min) := by rw [cell_of_row _ _ _ _ _ _ hk6]; rfl
            have x7 : w6.cell? ⟨qb, 7, none⟩ = some (.int .i64 p.max) := by rw [cell_of_row _ _ _ _ _ _ hk6]; rfl
            have x8 : w6.cell? ⟨qb, 8, none⟩ = some (.bool p.off) := by rw [cell_of_row _ _ _ _ _ _ hk6]; rfl
            clear hk6
            go_still_tail 10, (by kernel_rfl)
            change wpList _ _ _ _ _ w6.drew
            have HS7 := Lib.hid (HS6.out.next (Below.refl _ _).drew)
            clear n1 x0 x1 x2 x3 x4 x5 x6 x7 x8 HS6
            generalize w6.drew = w7 at HS7 ⊢
            obtain ⟨es2, c2, hm2, hl2⟩ := HS7.out.net.m
            have hu := run_updP p es2 c2 mm L w7 hl2 hm2 HPO.out
            have HS8 := Lib.hid (HS7.out.put (LiesG.push (kv := kvP) hl2 p c2) (c := c2 + 1))
            unfold kvP at HS8
            unfold keyP plcV at hu HS8
            dsimp only at hu HS8
            clear hm2 hl2
            go_wp2_with fail
            go_roundw
            case rel => exact ⟨i + 1, hlt, by rw [Int.natCast_succ], by rw [HSTEP.out]; unfold addP; rw [HPO.out]; exact HS8.out, HBAD.out⟩
            case measure => simp only [intOf]; omega)
        | some g =>
          simp only [Option.getD_some, Option.isSome_some] at hl1 hl2
          unfold keyP plcV at hl1 hl2
          obtain ⟨gc, gf, gs, gb, gr, gd, gm, gx, go⟩ := g
          dsimp only at hl1 hl2
          go_region
          all_goals (
            go_wp2_with fail
            go_roundw
            case rel => exact ⟨i + 1, hlt, by rw [Int.natCast_succ], by rw [HSTEP.out]; unfold addP; rw [HPO.out]; exact HS5.out.next (by repeat (first | exact below_new' _ _ | refine bdN ?_ _ | refine Below.drew ?_)), HBAD.out⟩
            case measure => simp only [intOf]; omega)
    · obtain rfl : i = P.length := by omega
      have hmm := @run_makeMap Tryz.prog
      have hPB : P.any plcBad = false := by have := hN.out; rwa [List.take_length] at this
      have HS1 : Hid (OfS w #[.string af, .string ad, .int .i64 aa, .int .i64 ax, .int .i64 al, .int .i64 ae, .slice ob bad.length cb] nb mm (.slice none 0 0) (P.foldl addP []) [] wr) := by have := hS.out; rwa [List.take_length] at this
      have HPB := Lib.hid hPB
      clear hPB hN hS hlt hi hi2
      obtain ⟨a0, a1, a2, a3, a4, a5, a6⟩ := ask_cells HS1.out.box
      have hl0 := lt_of_heap HS1.out.box
      have HS2 : Hid (OfS w #[.string af, .string ad, .int .i64 aa, .int .i64 ax, .int .i64 al, .int .i64 ae, .slice ob bad.length cb] nb mm (.slice none 0 0) (P.foldl addP []) [] (wr.alloc (.map #[] 0))) := HS1.out.next (below_new' _ _)
      have HBM : Hid ((wr.alloc (.map #[] 0)).heap[wr.heap.size]? = some (.map #[] 0)) := heap_alloc_at _ _
      have HBN : Hid (wr.heap.size ≠ mm ∧ w.heap.size ≤ wr.heap.size) := by
        obtain ⟨es, c, hm, _⟩ := HS1.out.net.m
        have := lt_of_heap hm
        exact ⟨by omega, by omega⟩
      go_wp2_with fail
      clear a0 a1 a2 a3 a4 a5 a6 hl0 hmm HS1
      generalize wr.alloc (.map #[] 0) = w4 at HS2 HBM ⊢
      generalize wr.heap.size = bm at HBM HBN ⊢
      go_loopw [137] (fun iv wr => ∃ (i : Nat) (es : Array MapEntry) (c : Nat) (K : List ByteArray), i ≤ bad.length ∧ iv = .int .i64 i ∧ Hid (OfS w #[.string af, .string ad, .int .i64 aa, .int .i64 ax, .int .i64 al, .int .i64 ae, .slice ob bad.length cb] nb mm (.slice none 0 0) (P.foldl addP []) [] wr) ∧ Hid (wr.heap[bm]? = some (.map es c)) ∧ Hid (LiesG kvK es.toList K) ∧ Hid (∀ t, t ∈ K ↔ t ∈ bad.take i)) (fun iv _ => bad.length - (intOf iv).toNat)
      case atStart => exact ⟨0, #[], 0, [], Nat.zero_le _, rfl, HS2.out, HBM.out, rfl, fun t => by simp⟩
      case round =>
        obtain ⟨i, es, c, K, hi, rfl, hS, hM, hK, hT⟩ := hrel
        have hi2 := HL3.out
        by_cases hlt : i < bad.length
        · obtain ⟨s, hs⟩ : ∃ s, bad[i]? = some s := ⟨_, List.getElem?_eq_getElem hlt⟩
          obtain ⟨lb, lf, rfl, hc⟩ := HBB.out.resolve_left (by intro h; rw [h] at hlt; simp at hlt)
          have z0 : wr.cell? ⟨lb, lf + i, none⟩ = some (.string s) := cell_later' hS.out.bel (hc i s hs)
          have hii : (i : Int) < (bad.length : Int) := by omega
          have hii2 : (bad.length : Int) ≤ 256 := by omega
          obtain ⟨es', c', K', hu, hl', hK'⟩ := run_updS s es c bm K wr hK.out hM.out
          have HS3 := Lib.hid (hS.out.putK (es' := es') (c' := c') hM.out HBN.out.1 HBN.out.2)
          have HM3 : Hid ((putO wr bm (.map es' c')).heap[bm]? = some (.map es' c')) := putO_same hM.out
          have HL' := Lib.hid hl'
          have HK' : Hid (∀ t, t ∈ K' ↔ t ∈ bad.take (i + 1)) := fun t => by
            rw [hK' t, hT.out t, List.take_add_one, hs]; simp [or_comm]
          clear hc hi2 hl' hK'
          go_wp2_with fail
          go_roundw
          case rel => exact ⟨i + 1, es', c', K', hlt, by rw [Int.natCast_succ], HS3.out, HM3.out, HL'.out, HK'.out⟩
          case measure => simp only [intOf]; omega
        · obtain rfl : i = bad.length := by omega
          have HT2 : Hid (waysGo K E = waysGo bad E) := by
            refine ways_congr E _ _ (fun t => ?_)
            have := hT.out t
            rwa [List.take_length] at this
          clear hlt hi hi2 hT
          go_wp2_with fail
          go_loopw [146] (fun iv wr => ∃ (i : Nat) (es : Array MapEntry) (c : Nat) (K : List ByteArray) (v : Value) (Ws : List WayE), i ≤ E.length ∧ iv = .int .i64 i ∧ Hid (OfS w #[.string af, .string ad, .int .i64 aa, .int .i64 ax, .int .i64 al, .int .i64 ae, .slice ob bad.length cb] nb mm v (P.foldl addP []) Ws wr) ∧ Hid (wr.heap[bm]? = some (.map es c)) ∧ Hid (LiesG kvK es.toList K) ∧ Hid (Ws.map (·.1) ++ waysGo K (E.drop i) = waysGo bad E) ∧ Hid ((E.take i).any edgBad = false) ∧ Hid (Ws.length ≤ 2 * i)) (fun iv _ => E.length - (intOf iv).toNat)
          case atStart => exact ⟨0, es, c, K, _, [], Nat.zero_le _, rfl, hS.out, hM.out, hK.out, HT2.out, rfl, Nat.zero_le _⟩
          case round =>
            clear hS hM hK HT2
            obtain ⟨i, es, c, K, v, Ws, hi, rfl, hS, hM, hK, hW, hN, hQ⟩ := hrel
            have hi2 := HL1.out
            by_cases hlt : i < E.length
            · obtain ⟨e, he⟩ : ∃ e, E[i]? = some e := ⟨_, List.getElem?_eq_getElem hlt⟩
              obtain ⟨lb, lf, rfl, hc⟩ := rows_at HEE.out he
              have z0 : wr.cell? ⟨lb, lf + i * 4, none⟩ = some (.string e.chan) := cell_later' hS.out.bel (hc 0 _ rfl)
              have z1 : wr.cell? ⟨lb, lf + i * 4 + 1, none⟩ = some (.string e.a) := cell_later' hS.out.bel (hc 1 _ rfl)
              have z2 : wr.cell? ⟨lb, lf + i * 4 + 2, none⟩ = some (.string e.b) := cell_later' hS.out.bel (hc 2 _ rfl)
              have z3 : wr.cell? ⟨lb, lf + i * 4 + 3, none⟩ = some (.int .i64 e.cap) := cell_later' hS.out.bel (hc 3 _ rfl)
              have hii : (i : Int) < (E.length : Int) := by omega
              have hii2 : (E.length : Int) ≤ 256 := by omega
              have htk : E.take (i + 1) = E.take i ++ [e] := by rw [List.take_add_one, he]; rfl
              have hdr : E.drop i = e :: E.drop (i + 1) := by rw [List.drop_eq_getElem_cons hlt]; congr 1; rw [List.getElem?_eq_getElem hlt] at he; exact Option.some.inj he
              clear hc hi2
              by_cases hbd : edgBad e = true
              · have HV : Hid (refusedN isKey E P ⟨af, ad, aa, ax, al, ae, bad⟩ = 2) := by
                  show _ = _
                  rw [HR.out, HPB.out, if_neg (by decide), if_pos (List.any_eq_true.2 ⟨e, List.mem_of_getElem? he, hbd⟩)]
                have hok : e.cap < 0 ∨ 2100000000000000 < e.cap := by unfold edgBad at hbd; exact of_decide_eq_true hbd
                by_cases hm0 : e.cap < 0
                · have dm : decide (e.cap < 0) = true := decide_eq_true hm0
                  clear hok hbd hm0 htk hdr
                  go_wp2_with fail
                  go_ret2
                  exact OfPost.no (by repeat (first | exact btr hS.out.bel (below_new' _ _) | refine bdN ?_ _ | refine Below.drew ?_)) HV.out (by decide)
                · have dm : decide (e.cap < 0) = false := decide_eq_false hm0
                  have ds : decide (2100000000000000 < e.cap) = true := decide_eq_true (by omega)
                  clear hok hbd hm0 htk hdr
                  go_wp2_with fail
                  go_ret2
                  exact OfPost.no (by repeat (first | exact btr hS.out.bel (below_new' _ _) | refine bdN ?_ _ | refine Below.drew ?_)) HV.out (by decide)
              · have hbf : edgBad e = false := by cases h : edgBad e; rfl; exact absurd h hbd
                have hok : ¬ (e.cap < 0 ∨ 2100000000000000 < e.cap) := by unfold edgBad at hbf; exact of_decide_eq_false hbf
                have dm : decide (e.cap < 0) = false := decide_eq_false (by omega)
                have ds : decide (2100000000000000 < e.cap) = false := decide_eq_false (by omega)
                have HBAD : Hid ((E.take (i + 1)).any edgBad = false) := by show _ = _; rw [htk, List.any_append, hN.out]; simp [hbf]
                clear hok hbd hbf
                have hb5 : Below wr.heap.size wr (wr.alloc (.cells #[.string e.chan, .string e.a, .string e.b, .int .i64 e.cap] 51)) := below_new' wr _
                have HS5 := Lib.hid (hS.out.next hb5)
                have HM5 : Hid ((wr.alloc (.cells #[.string e.chan, .string e.a, .string e.b, .int .i64 e.cap] 51)).heap[bm]? = some (.map es c)) := (hb5.block bm (lt_of_heap hM.out)).trans hM.out
                have hlk := run_lookS e.chan es c bm K (wr.alloc (.cells #[.string e.chan, .string e.a, .string e.b, .int .i64 e.cap] 51)) hK.out HM5.out
                have HQ2 : Hid (Ws.length ≤ 2 * (i + 1)) := Nat.le_trans hQ.out (by omega)
                clear hb5
                by_cases hkk : e.chan ∈ K ∨ e.a = e.b
                · obtain ⟨es', c', K', hu, hl', hK'⟩ := run_updS e.chan es c bm K (wr.alloc (.cells #[.string e.chan, .string e.a, .string e.b, .int .i64 e.cap] 51)) hK.out HM5.out
                  have HS6 := Lib.hid (HS5.out.putK (es' := es') (c' := c') HM5.out HBN.out.1 HBN.out.2)
                  have HM6 : Hid ((putO (wr.alloc (.cells #[.string e.chan, .string e.a, .string e.b, .int .i64 e.cap] 51)) bm (.map es' c')).heap[bm]? = some (.map es' c')) := putO_same HM5.out
                  have HL' := Lib.hid hl'
                  have HSK : Hid (Ws.map (·.1) ++ waysGo K' (E.drop (i + 1)) = waysGo bad E) := by
                    have h1 := hW.out
                    have h2 : waysGo K (e :: E.drop (i + 1)) = waysGo (e.chan :: K) (E.drop (i + 1)) := by
                      rw [waysGo, if_pos hkk]; rfl
                    rw [hdr, h2] at h1
                    show _ = _
                    rw [← h1, ways_congr _ K' (e.chan :: K) (fun t => by rw [hK' t]; simp)]
                  clear hl' hK'
                  by_cases hk1 : e.chan ∈ K
                  · rw [decide_eq_true hk1] at hlk
                    clear hk1
                    clear hkk hdr htk
                    go_wp2_with fail
                    go_roundw
                    case rel => exact ⟨i + 1, es', c', K', v, Ws, hlt, by rw [Int.natCast_succ], HS6.out, HM6.out, HL'.out, HSK.out, HBAD.out, HQ2.out⟩
                    case measure => simp only [intOf]; omega
                  · have hk2 : e.a.toList = e.b.toList := by rw [hkk.resolve_left hk1]
                    rw [decide_eq_false hk1] at hlk
                    clear hk1
                    clear hkk hdr htk
                    go_wp2_with fail
                    go_roundw
                    case rel => exact ⟨i + 1, es', c', K', v, Ws, hlt, by rw [Int.natCast_succ], HS6.out, HM6.out, HL'.out, HSK.out, HBAD.out, HQ2.out⟩
                    case measure => simp only [intOf]; omega
                · have hk1 : e.chan ∉ K := fun h => hkk (.inl h)
                  have hab : ¬ e.a = e.b := fun h => hkk (.inr h)
                  have q1 := toList_ne hab
                  rw [decide_eq_false hk1] at hlk
                  have HW2 : Hid ((Ws ++ [((⟨e.chan, e.cap, e.a, e.b⟩ : Rte.Way), e.a, e.b), (⟨e.chan, e.cap, e.b, e.a⟩, e.a, e.b)]).map (·.1) ++ waysGo (e.chan :: K) (E.drop (i + 1)) = waysGo bad E) := by
                    have h1 := hW.out
                    have h2 : waysGo K (e :: E.drop (i + 1)) = [⟨e.chan, e.cap, e.a, e.b⟩, ⟨e.chan, e.cap, e.b, e.a⟩] ++ waysGo (e.chan :: K) (E.drop (i + 1)) := by
                      rw [waysGo, if_neg hkk]
                    rw [hdr, h2] at h1
                    show _ = _
                    rw [← h1]; simp
                  clear hkk hdr htk hk1 hab
                  obtain ⟨va, vc, rfl⟩ := own_slice hS.out.net.own
                  obtain ⟨j0, hj0, hy0, hy1, hy2⟩ := info_parts Tryz.info147
                  have HKQ : Hid ((wr.alloc (.cells #[.string e.chan, .string e.a, .string e.b, .int .i64 e.cap] 51)).heap[wr.heap.size]? = some (.cells #[.string e.chan, .string e.a, .string e.b, .int .i64 e.cap] 51 (0, 0))) := heap_alloc_at _ _
                  go_wp2_with fail
                  clear z0 z1 z2 z3 dm ds hlk
                  generalize (wr.alloc (.cells #[.string e.chan, .string e.a, .string e.b, .int .i64 e.cap] 51)) = w5 at HS5 HM5 HKQ ⊢
                  generalize wr.heap.size = qb at HKQ ⊢
                  have x0 : w5.cell? ⟨qb, 0, none⟩ = some (.string e.chan) := by rw [cell_of_row _ _ _ _ _ _ HKQ.out]; rfl
                  have x1 : w5.cell? ⟨qb, 1, none⟩ = some (.string e.a) := by rw [cell_of_row _ _ _ _ _ _ HKQ.out]; rfl
                  have x2 : w5.cell? ⟨qb, 2, none⟩ = some (.string e.b) := by rw [cell_of_row _ _ _ _ _ _ HKQ.out]; rfl
                  have x3 : w5.cell? ⟨qb, 3, none⟩ = some (.int .i64 e.cap) := by rw [cell_of_row _ _ _ _ _ _ HKQ.out]; rfl
                  have n0 : w5.cell? ⟨nb, 0, none⟩ = some (.slice va Ws.length vc) := by rw [cell_of_row _ _ _ _ _ _ HS5.out.net.n]; rfl
                  have f0 : w5.frozen? ⟨nb, 0, none⟩ = false := by simp [World.frozen?, HS5.out.net.n]
                  have l1 := lt_of_heap HKQ.out
                  have l2 := lt_of_heap HS5.out.net.n
                  have l3 := HS5.out.bel.size
                  have hq3 := HQ2.out
                  have hwl : Ws.length ≤ 1000 := by omega
                  clear hq3
                  have hqn : qb ≠ nb := by
                    rintro rfl
                    have h1 := HKQ.out
                    rw [HS5.out.net.n] at h1
                    cases h1
                  refine wp_region_held_drew (S := (fun W => W.cell? ⟨qb, 0, none⟩ = some (.string e.chan) ∧ W.cell? ⟨qb, 1, none⟩ = some (.string e.a) ∧ W.cell? ⟨qb, 2, none⟩ = some (.string e.b) ∧ W.cell? ⟨qb, 3, none⟩ = some (.int .i64 e.cap))) (by kernel_rfl) ⟨x0, x1, x2, x3⟩ (fun hHeld => ?_)
                  refine wpAnyH_take (i := 0) (v := ?v0) rfl (by kernel_rfl) (by kernel_rfl) (by kernel_rfl) (fun _ _ _ h => h) (Or.inl ⟨by rfl, ?hy0⟩) (by assumption) ?rest0
                  case hy0 => (intro w' hSw; (try dsimp only at hSw); go_simp; try with_reducible rfl)
                  try simp only [Act.put, List.setIfInBounds_toArray]
                  refine wpAnyH_take (i := 1) (v := ?v1) rfl (by kernel_rfl) (by kernel_rfl) (by kernel_rfl) (fun _ _ _ h => h) (Or.inl ⟨by rfl, ?hy1⟩) (by assumption) ?rest1
                  case hy1 => (intro w' hSw; (try dsimp only at hSw); go_simp; try with_reducible rfl)
                  try simp only [Act.put]
                  refine wpAnyH_take (i := 2) (v := ?v2) rfl (by kernel_rfl) (by kernel_rfl) (by kernel_rfl) (fun _ _ _ h => h) (Or.inl ⟨by rfl, ?hy2⟩) (by assumption) ?rest2
                  case hy2 => (intro w' hSw; (try dsimp only at hSw); go_simp; try with_reducible rfl)
                  try simp only [Act.put]
                  refine wpAnyH_take (i := 3) (v := ?v3) rfl (by kernel_rfl) (by kernel_rfl) (by kernel_rfl) (fun _ _ _ h => h) (Or.inl ⟨by rfl, ?hy3⟩) (by assumption) ?rest3
                  case hy3 => (intro w' hSw; (try dsimp only at hSw); go_simp; try with_reducible rfl)
                  try simp only [Act.put]
                  refine wpAnyH_take (i := 5) (v := ?v5) rfl (by kernel_rfl) (by kernel_rfl) (by kernel_rfl) (fun _ _ _ h => h) (Or.inl ⟨by rfl, ?hy5⟩) (by assumption) ?rest5
                  case hy5 => (intro w' hSw; (try dsimp only at hSw); go_simp; try with_reducible rfl)
                  try simp only [Act.put]
                  refine wpAnyH_take (i := 6) (v := ?v6) rfl (by kernel_rfl) (by kernel_rfl) (by kernel_rfl) (fun _ _ _ h => h) (Or.inl ⟨by rfl, ?hy6⟩) (by assumption) ?rest6
                  case hy6 => (intro w' hSw; (try dsimp only at hSw); go_simp; try with_reducible rfl)
                  try simp only [Act.put]
                  refine wpAnyH_take (i := 7) (v := ?v7) rfl (by kernel_rfl) (by kernel_rfl) (by kernel_rfl) (fun _ _ _ h => h) (Or.inl ⟨by rfl, ?hy7⟩) (by assumption) ?rest7
                  case hy7 => (intro w' hSw; (try dsimp only at hSw); go_simp; try with_reducible rfl)
                  try simp only [Act.put]
                  refine wpAnyH_take (i := 8) (v := ?v8) rfl (by kernel_rfl) (by kernel_rfl) (by kernel_rfl) (fun _ _ _ h => h) (Or.inl ⟨by rfl, ?hy8⟩) (by assumption) ?rest8
                  case hy8 => (intro w' hSw; (try dsimp only at hSw); go_simp; try with_reducible rfl)
                  try simp only [Act.put]
                  refine wpAnyH_take (i := 9) (v := ?v9) rfl (by kernel_rfl) (by kernel_rfl) (by kernel_rfl) (fun _ _ _ h => h) (Or.inl ⟨by rfl, ?hy9⟩) (by assumption) ?rest9
                  case hy9 => (intro w' hSw; (try dsimp only at hSw); go_simp; try with_reducible rfl)
                  try simp only [Act.put]
                  refine wpAnyH_take (i := 10) (v := ?v10) rfl (by kernel_rfl) (by kernel_rfl) (by kernel_rfl) (fun _ _ _ h => h) (Or.inl ⟨by rfl, ?hy10⟩) (by assumption) ?rest10
                  case hy10 => (intro w' hSw; (try dsimp only at hSw); go_simp; try with_reducible rfl)
                  try simp only [Act.put]
                  refine wpAnyH_take (i := 11) (v := ?v11) rfl (by kernel_rfl) (by kernel_rfl) (by kernel_rfl) (fun _ _ _ h => h) (Or.inl ⟨by rfl, ?hy11⟩) (by assumption) ?rest11
                  case hy11 => (intro w' hSw; (try dsimp only at hSw); go_simp; try with_reducible rfl)
                  try simp only [Act.put]
                  refine wpAnyH_take (i := 12) (v := ?v12) rfl (by kernel_rfl) (by kernel_rfl) (by kernel_rfl) (fun _ _ _ h => h) (Or.inl ⟨by rfl, ?hy12⟩) (by assumption) ?rest12
                  case hy12 => (intro w' hSw; (try dsimp only at hSw); go_simp; try with_reducible rfl)
                  try simp only [Act.put]
                  refine wpAnyH_take (i := 13) (v := ?v13) rfl (by kernel_rfl) (by kernel_rfl) (by kernel_rfl) (fun _ _ _ h => h) (Or.inl ⟨by rfl, ?hy13⟩) (by assumption) ?rest13
                  case hy13 => (intro w' hSw; (try dsimp only at hSw); go_simp; try with_reducible rfl)
                  try simp only [Act.put]
                  refine wpAnyH_take (i := 14) (v := ?v14) rfl (by kernel_rfl) (by kernel_rfl) (by kernel_rfl) (fun _ _ _ h => h) (Or.inl ⟨by rfl, ?hy14⟩) (by assumption) ?rest14
                  case hy14 => (intro w' hSw; (try dsimp only at hSw); go_simp; try with_reducible rfl)
                  try simp only [Act.put]
                  refine wpAnyH_take (i := 15) (v := ?v15) rfl (by kernel_rfl) (by kernel_rfl) (by kernel_rfl) (fun _ _ _ h => h) (Or.inl ⟨by rfl, ?hy15⟩) (by assumption) ?rest15
                  case hy15 => (intro w' hSw; (try dsimp only at hSw); go_simp; try with_reducible rfl)
                  try simp only [Act.put]
                  refine wpAnyH_take (i := 16) (v := ?v16) rfl (by kernel_rfl) (by kernel_rfl) (by kernel_rfl) (fun _ _ _ h => h) (Or.inl ⟨by rfl, ?hy16⟩) (by assumption) ?rest16
                  case hy16 => (intro w' hSw; (try dsimp only at hSw); go_simp; try with_reducible rfl)
                  try simp only [Act.put]
                  refine wpAnyH_ready (rs := [4, 17]) (by kernel_rfl) (by simp) ?_
                  refine AllReadyH.cons rfl (fun K hK => ?_) (AllReadyH.cons rfl (fun K hK => ?_) AllReadyH.nil)
                  · go_simp
                    refine hK.out _ _ ⟨x0, x1, x2, x3⟩ (fun hHeld => ?_)
                    clear hK K
                    try simp only [Act.put, List.setIfInBounds_toArray, List.set_cons_zero, List.set_cons_succ]
                    refine wpAnyH_ready (rs := [17]) (by kernel_rfl) (by simp) ?_
                    refine AllReadyH.cons rfl (fun K hK => ?_) AllReadyH.nil
                    go_simp
                    refine hK.out _ _ (cells4_alloc l1 ⟨x0, x1, x2, x3⟩) (fun hHeld => ?_)
                    clear hK K
                    try simp only [Act.put, List.setIfInBounds_toArray, List.set_cons_zero, List.set_cons_succ]
                    refine wpAnyH_ready (rs := [18]) (by kernel_rfl) (by simp) ?_
                    refine AllReadyH.cons rfl (fun K hK => ?_) AllReadyH.nil
                    (refine step_append_lies _ (by rfl) _ _ _ (by rfl) w.heap.size 147 j0 _ 6 88 Tryz.underlying142 hj0 hy0 hy1 hy2 rfl (by omega) (.slice va Ws.length vc) Ws.length (waysC Ws) (by rfl) ((HS5.out.net.own.drew).alloc _) ⟨w5.heap.size, 0, none⟩ 2 2 [.string e.chan, .string e.a, .string e.b, .int .i64 e.cap, .string e.a, .string e.b, .string e.chan, .string e.a, .string e.b, .int .i64 e.cap, .string e.b, .string e.a] (by rfl) (by rfl) (World.news_of_block (cs := #[.string e.chan, .string e.a, .string e.b, .int .i64 e.cap, .string e.a, .string e.b, .string e.chan, .string e.a, .string e.b, .int .i64 e.cap, .string e.b, .string e.a]) (t := 147) (fr := (0, 0)) (heap_alloc_at w5 _)) (by simp [Value.oneCell']) (by omega) (by unfold maxLen; omega) (by omega) (by simp; omega) (w5.heap.size + 1) (by simp) ?_; intro g cap w7 hown7 hgrow7 hat7 hlt7; have HG7 := Lib.hid hgrow7; have HO7 := Lib.hid hown7; have K7 := OfS.netrow HS5.out hgrow7; have n7 : w7.cell? ⟨nb, 0, none⟩ = some (.slice va Ws.length vc) := (by rw [cell_of_row _ _ _ _ _ _ K7]; rfl); have f7 : w7.frozen? ⟨nb, 0, none⟩ = false := (by simp [World.frozen?, K7]); have KX7 := Lib.hid (OfS.edge4 HS5.out hgrow7 HKQ.out); clear K7 hgrow7 hown7 hat7)
                    refine hK.out _ _ KX7.out (fun hHeld => ?_)
                    clear hK K
                    try simp only [Act.put, List.setIfInBounds_toArray]
                    refine wpAnyH_take (i := 19) (v := ?v19a) rfl (by kernel_rfl) (by kernel_rfl) (by kernel_rfl) (fun _ _ _ h => h) (Or.inl ⟨by rfl, ?hy19a⟩) (by assumption) ?rest19a
                    case hy19a => (intro w' hSw; (try dsimp only at hSw); go_simp; try with_reducible rfl)
                    try simp only [Act.put]
                    refine wpAnyH_take (i := 20) (v := ?v20a) rfl (by kernel_rfl) (by kernel_rfl) (by kernel_rfl) (fun _ _ _ h => h) (Or.inl ⟨by rfl, ?hy20a⟩) (by assumption) ?rest20a
                    case hy20a => (intro w' hSw; (try dsimp only at hSw); go_simp; try with_reducible rfl)
                    try simp only [Act.put]
                    refine wpAnyH_ready (rs := [21]) (by kernel_rfl) (by simp) ?_
                    refine AllReadyH.cons rfl (fun K hK => ?_) AllReadyH.nil
                    go_simp
                    refine hK.out _ _ (cells4_set hqn KX7.out) (fun hHeld => ?_)
                    clear hK K
                    try simp only [Act.put, List.setIfInBounds_toArray, List.set_cons_zero, List.set_cons_succ]
                    refine wpAnyH_done (by kernel_rfl) ?_ _
                    have hbn : bm ≠ nb := by
                      rintro rfl
                      have h1 := HM5.out
                      rw [HS5.out.net.n] at h1
                      cases h1
                    have HS8 := Lib.hid (OfS.grow (x1 := ((⟨e.chan, e.cap, e.a, e.b⟩ : Rte.Way), e.a, e.b)) (x2 := (⟨e.chan, e.cap, e.b, e.a⟩, e.a, e.b)) HS5.out HG7.out HO7.out)
                    have HM8 := Lib.hid (OfS.stay (v' := .slice (some ⟨g, 0, none⟩) (Ws.length + 2) cap) HS5.out HG7.out HM5.out (fun cs h => by cases h) hbn)
                    have y8 := cells4_set (v := .slice (some ⟨g, 0, none⟩) (Ws.length + 2) cap) hqn KX7.out
                    clear HG7 HO7 KX7 n7 f7 hqn x0 x1 x2 x3 n0 f0 l1 l2 l3 HS5 HM5 HKQ hwl
                    obtain ⟨y80, y81, y82, y83⟩ := y8
                    have hq4 := hQ.out
                    have HQ8 : Hid ((Ws ++ [((⟨e.chan, e.cap, e.a, e.b⟩ : Rte.Way), e.a, e.b), (⟨e.chan, e.cap, e.b, e.a⟩, e.a, e.b)]).length ≤ 2 * (i + 1)) := by
                      show _ ≤ _
                      rw [List.length_append]; simp only [List.length_cons, List.length_nil]; omega
                    clear hq4
                    generalize w7.setCell ⟨nb, 0, none⟩ (.slice (some ⟨g, 0, none⟩) (Ws.length + 2) cap) = w8 at HS8 HM8 y80 y81 y82 y83 ⊢
                    obtain ⟨es', c', K', hu, hl', hK'⟩ := run_updS e.chan es c bm K w8 hK.out HM8.out
                    have HS9 := Lib.hid (HS8.out.putK (es' := es') (c' := c') HM8.out HBN.out.1 HBN.out.2)
                    have HM9 : Hid ((putO w8 bm (.map es' c')).heap[bm]? = some (.map es' c')) := putO_same HM8.out
                    have HL' := Lib.hid hl'
                    have HSK : Hid ((Ws ++ [((⟨e.chan, e.cap, e.a, e.b⟩ : Rte.Way), e.a, e.b), (⟨e.chan, e.cap, e.b, e.a⟩, e.a, e.b)]).map (·.1) ++ waysGo K' (E.drop (i + 1)) = waysGo bad E) := by
                      show _ = _
                      rw [← HW2.out, ways_congr _ K' (e.chan :: K) (fun t => by rw [hK' t]; simp)]
                    clear hl' hK' HW2 HS8 HM8
                    go_wp2_with fail
                    go_roundw
                    case rel => exact ⟨i + 1, es', c', K', .slice (some ⟨g, 0, none⟩) (Ws.length + 2) cap, _, hlt, by rw [Int.natCast_succ], HS9.out, HM9.out, HL'.out, HSK.out, HBAD.out, HQ8.out⟩
                    case measure => simp only [intOf]; omega
                  · go_simp
                    refine hK.out _ _ (cells4_alloc l1 ⟨x0, x1, x2, x3⟩) (fun hHeld => ?_)
                    clear hK K
                    try simp only [Act.put, List.setIfInBounds_toArray, List.set_cons_zero, List.set_cons_succ]
                    refine wpAnyH_ready (rs := [4]) (by kernel_rfl) (by simp) ?_
                    refine AllReadyH.cons rfl (fun K hK => ?_) AllReadyH.nil
                    go_simp
                    refine hK.out _ _ (cells4_alloc l1 ⟨x0, x1, x2, x3⟩) (fun hHeld => ?_)
                    clear hK K
                    try simp only [Act.put, List.setIfInBounds_toArray, List.set_cons_zero, List.set_cons_succ]
                    refine wpAnyH_ready (rs := [18]) (by kernel_rfl) (by simp) ?_
                    refine AllReadyH.cons rfl (fun K hK => ?_) AllReadyH.nil
                    (refine step_append_lies _ (by rfl) _ _ _ (by rfl) w.heap.size 147 j0 _ 6 88 Tryz.underlying142 hj0 hy0 hy1 hy2 rfl (by omega) (.slice va Ws.length vc) Ws.length (waysC Ws) (by rfl) ((HS5.out.net.own.drew).alloc _) ⟨w5.heap.size, 0, none⟩ 2 2 [.string e.chan, .string e.a, .string e.b, .int .i64 e.cap, .string e.a, .string e.b, .string e.chan, .string e.a, .string e.b, .int .i64 e.cap, .string e.b, .string e.a] (by rfl) (by rfl) (World.news_of_block (cs := #[.string e.chan, .string e.a, .string e.b, .int .i64 e.cap, .string e.a, .string e.b, .string e.chan, .string e.a, .string e.b, .int .i64 e.cap, .string e.b, .string e.a]) (t := 147) (fr := (0, 0)) (heap_alloc_at w5 _)) (by simp [Value.oneCell']) (by omega) (by unfold maxLen; omega) (by omega) (by simp; omega) (w5.heap.size + 1) (by simp) ?_; intro g cap w7 hown7 hgrow7 hat7 hlt7; have HG7 := Lib.hid hgrow7; have HO7 := Lib.hid hown7; have K7 := OfS.netrow HS5.out hgrow7; have n7 : w7.cell? ⟨nb, 0, none⟩ = some (.slice va Ws.length vc) := (by rw [cell_of_row _ _ _ _ _ _ K7]; rfl); have f7 : w7.frozen? ⟨nb, 0, none⟩ = false := (by simp [World.frozen?, K7]); have KX7 := Lib.hid (OfS.edge4 HS5.out hgrow7 HKQ.out); clear K7 hgrow7 hown7 hat7)
                    refine hK.out _ _ KX7.out (fun hHeld => ?_)
                    clear hK K
                    try simp only [Act.put, List.setIfInBounds_toArray]
                    refine wpAnyH_take (i := 19) (v := ?v19b) rfl (by kernel_rfl) (by kernel_rfl) (by kernel_rfl) (fun _ _ _ h => h) (Or.inl ⟨by rfl, ?hy19b⟩) (by assumption) ?rest19b
                    case hy19b => (intro w' hSw; (try dsimp only at hSw); go_simp; try with_reducible rfl)
                    try simp only [Act.put]
                    refine wpAnyH_take (i := 20) (v := ?v20b) rfl (by kernel_rfl) (by kernel_rfl) (by kernel_rfl) (fun _ _ _ h => h) (Or.inl ⟨by rfl, ?hy20b⟩) (by assumption) ?rest20b
                    case hy20b => (intro w' hSw; (try dsimp only at hSw); go_simp; try with_reducible rfl)
                    try simp only [Act.put]
                    refine wpAnyH_ready (rs := [21]) (by kernel_rfl) (by simp) ?_
                    refine AllReadyH.cons rfl (fun K hK => ?_) AllReadyH.nil
                    go_simp
                    refine hK.out _ _ (cells4_set hqn KX7.out) (fun hHeld => ?_)
                    clear hK K
                    try simp only [Act.put, List.setIfInBounds_toArray, List.set_cons_zero, List.set_cons_succ]
                    refine wpAnyH_done (by kernel_rfl) ?_ _
                    have hbn : bm ≠ nb := by
                      rintro rfl
                      have h1 := HM5.out
                      rw [HS5.out.net.n] at h1
                      cases h1
                    have HS8 := Lib.hid (OfS.grow (x1 := ((⟨e.chan, e.cap, e.a, e.b⟩ : Rte.Way), e.a, e.b)) (x2 := (⟨e.chan, e.cap, e.b, e.a⟩, e.a, e.b)) HS5.out HG7.out HO7.out)
                    have HM8 := Lib.hid (OfS.stay (v' := .slice (some ⟨g, 0, none⟩) (Ws.length + 2) cap) HS5.out HG7.out HM5.out (fun cs h => by cases h) hbn)
                    have y8 := cells4_set (v := .slice (some ⟨g, 0, none⟩) (Ws.length + 2) cap) hqn KX7.out
                    clear HG7 HO7 KX7 n7 f7 hqn x0 x1 x2 x3 n0 f0 l1 l2 l3 HS5 HM5 HKQ hwl
                    obtain ⟨y80, y81, y82, y83⟩ := y8
                    have hq4 := hQ.out
                    have HQ8 : Hid ((Ws ++ [((⟨e.chan, e.cap, e.a, e.b⟩ : Rte.Way), e.a, e.b), (⟨e.chan, e.cap, e.b, e.a⟩, e.a, e.b)]).length ≤ 2 * (i + 1)) := by
                      show _ ≤ _
                      rw [List.length_append]; simp only [List.length_cons, List.length_nil]; omega
                    clear hq4
                    generalize w7.setCell ⟨nb, 0, none⟩ (.slice (some ⟨g, 0, none⟩) (Ws.length + 2) cap) = w8 at HS8 HM8 y80 y81 y82 y83 ⊢
                    obtain ⟨es', c', K', hu, hl', hK'⟩ := run_updS e.chan es c bm K w8 hK.out HM8.out
                    have HS9 := Lib.hid (HS8.out.putK (es' := es') (c' := c') HM8.out HBN.out.1 HBN.out.2)
                    have HM9 : Hid ((putO w8 bm (.map es' c')).heap[bm]? = some (.map es' c')) := putO_same HM8.out
                    have HL' := Lib.hid hl'
                    have HSK : Hid ((Ws ++ [((⟨e.chan, e.cap, e.a, e.b⟩ : Rte.Way), e.a, e.b), (⟨e.chan, e.cap, e.b, e.a⟩, e.a, e.b)]).map (·.1) ++ waysGo K' (E.drop (i + 1)) = waysGo bad E) := by
                      show _ = _
                      rw [← HW2.out, ways_congr _ K' (e.chan :: K) (fun t => by rw [hK' t]; simp)]
                    clear hl' hK' HW2 HS8 HM8
                    go_wp2_with fail
                    go_roundw
                    case rel => exact ⟨i + 1, es', c', K', .slice (some ⟨g, 0, none⟩) (Ws.length + 2) cap, _, hlt, by rw [Int.natCast_succ], HS9.out, HM9.out, HL'.out, HSK.out, HBAD.out, HQ8.out⟩
                    case measure => simp only [intOf]; omega
            · obtain rfl : i = E.length := by omega
              have HF : Hid (OfPost E P ⟨af, ad, aa, ax, al, ae, bad⟩ w (.returned (.tuple #[.pointer (some ⟨nb, 0, none⟩), .int .i64 0])) wr) := by
                have hr0 : refusedN isKey E P ⟨af, ad, aa, ax, al, ae, bad⟩ = 0 := by
                  have := hN.out
                  rw [List.take_length] at this
                  rw [HR.out, HPB.out, this]; rfl
                refine ⟨hS.out.bel, fun h => absurd hr0 h, fun _ => ⟨nb, rfl, mm, v, _, Ws, hS.out.net, pol_all P, fun p hp => ?_, ?_⟩⟩
                · rcases add_mem _ _ _ hp with h | h
                  · cases h
                  · exact h
                · have := hW.out
                  rw [List.drop_length] at this
                  simpa [waysGo] using this
              clear hi hi2 hlt hS hM hK hW hN hQ
              go_wp2_with fail
              go_ret2
              exact HF.out
theorem net_any (oe : Option Addr) (E : List Edg) (ce : Nat) (op : Option Addr) (P : List Plc) (cp : Nat) (A : AskR) (ob : Option Addr) (cb : Nat) (w : World) (hs1 : A.frm.size ≤ maxLen) (hs2 : A.dst.size ≤ maxLen) (hL : LibOk w)
    (hE : RowsAt 4 edgC oe E w) (hP : RowsAt 9 plcC op P w) (hB : StrsAt ob A.bad w) : Calls Tryz.prog 77 #[.slice oe E.length ce, .slice op P.length cp, askV A ob cb] w (OfPost E P A w) := by
  by_cases c1 : 256 < E.length ∨ 512 < P.length ∨ 256 < A.bad.length
  · exact of_early1 oe E ce op P cp A ob cb w hs1 hs2 hL c1
  · by_cases c2 : isKey A.frm = false ∨ isKey A.dst = false ∨ A.frm = A.dst ∨ timeB A.exp = false ∨ timeB A.latest = false
    · exact of_early2 oe E ce op P cp A ob cb w hs1 hs2 hL c1 c2
    · by_cases c3 : A.amt < 1 ∨ 2100000000000000000 < A.amt ∨ A.fee < 0 ∨ 2100000000000000000 < A.fee
      · exact of_early3 oe E ce op P cp A ob cb w hs1 hs2 hL c1 c2 c3
      · exact of_late oe E ce op P cp A ob cb w hs1 hs2 hL hE hP hB (by unfold earlyN; rw [if_neg c1, if_neg c2, if_neg c3])
end Go.Proofs.YtbdimlppnhcicaaGreatDoor
