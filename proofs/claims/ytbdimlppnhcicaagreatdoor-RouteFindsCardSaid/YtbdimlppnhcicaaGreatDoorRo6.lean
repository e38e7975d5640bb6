/- route: Fee; Check, of what is refused -/
import Derived.StillTailTactics
import Derived.Lib.ParseIntB
import Derived.Lib.Bytealg
import Derived.Lib.ItoaNum
import Derived.Lib.ParseIntBCases
import Derived.Shelf.Strings.Builder1
import Derived.Shelf.Small.Bits
import Derived.Shelf.Small.Strs
import Derived.Shelf.Small.Wraps
import Derived.Shelf.Strings.BuilderF
import Derived.Shelf.Strings.BuilderK
import Derived.Shelf.Strconv.Itoa0
import Derived.Shelf.Strconv.Itoa1
import Derived.Shelf.LaysM
import Derived.Shelf.Strconv.Itoa2
import Derived.Shelf.Strconv.Itoa3
import Derived.Shelf.Strconv.Itoa4
import Derived.Shelf.Strconv.ParseIntEmpty
import Derived.Shelf.Strconv.Clone
import Derived.Shelf.Strconv.SyntaxError
import Derived.Shelf.LaysC
import Derived.Shelf.Strconv.ToError
import Derived.Shelf.Strconv.Lower
import Derived.Shelf.Strconv.ParseUint10
import Derived.Shelf.Strconv.ParseUint10Empty
import Derived.Shelf.Strconv.ParseUint10Any
import Derived.Shelf.Strconv.ParseInt10
import Derived.Shelf.Strconv.RangeError
import Derived.Shelf.Strconv.ToErrorRange
import Derived.Shelf.Strconv.ParseUintEmpty
import Derived.Shelf.Strconv.ParseUint10b64
import Derived.Shelf.Strconv.ParseUint10b32
import Derived.Shelf.Strconv.ParseUint10b16
import Derived.Shelf.Strconv.ParseUint10b8
import Derived.Shelf.Strconv.ParseUint10At
import Derived.Shelf.Strconv.ParseInt10At64
import Derived.Shelf.Strconv.ParseInt10At32
import Derived.Shelf.Strconv.ParseInt10At16
import Derived.Shelf.Strconv.ParseInt10At8
import Derived.Shelf.Strconv.ParseInt10All
import Derived.Shelf.Strconv.ParseIntPublic10
import Derived.Shelf.Strconv.ErrVarParseInt
import Derived.Shelf.Strings.Search1
import Derived.Shelf.Bits.Mul64
import Derived.Shelf.Strings.BuilderCap
import Derived.Ground.Names2Prog
import Derived.Shelf.Slices.Clone
import Derived.Shelf.Slices.SearchI
import Derived.Ground.SlgnProg
import Derived.Shelf.SlicesE.Clone
import Derived.WalkKit
import Derived.WalkSpells
import Derived.WalkLawsBesides
import Derived.Handy
import Derived.Lib.Hide
import Derived.Deep.QuietTactic
import Derived.BigQuiet
import Derived.Deep.RegionHeld3
import Derived.Lib.Strings
import Derived.Lib.IndexBytes
import Derived.BigRegion
import Derived.Deep.RegionLaw
import Derived.Deep.AppendLies
import Derived.Deep.LoopGhost
import Derived.Deep.Onto
import Derived.Deep.WholeRow
import Derived.Deep.CutRange
import Derived.Laws.CopyOwn
import Derived.Lib.ItoaLen
import Derived.Lib.AppendIntMem
import Derived.Deep.CutBlock
import Derived.Deep.MidRow
import Derived.Deep.RegionHeld
import Derived.Outline
import Derived.Laws.Tables
import Derived.Laws.MakeOwn
import Derived.Laws.OwnMore
import Derived.WalkMore
import Derived.MapKept
import Derived.Carry
import Derived.Test.YtbdimlppnhcicaaGreatDoorRows
import Derived.Test.YtbdimlppnhcicaaGreatDoorProg
import Derived.Test.YtbdimlppnhcicaaGreatDoorNu
import Derived.Test.YtbdimlppnhcicaaGreatDoorTa
import Derived.Test.YtbdimlppnhcicaaGreatDoorRg
import Derived.Test.YtbdimlppnhcicaaGreatDoorBa
import Derived.Test.YtbdimlppnhcicaaGreatDoorO
import Derived.Test.YtbdimlppnhcicaaGreatDoorVa
import Derived.Test.YtbdimlppnhcicaaGreatDoorWg
import Derived.Test.YtbdimlppnhcicaaGreatDoorSo
import Derived.Test.YtbdimlppnhcicaaGreatDoorOnA
import Derived.Test.YtbdimlppnhcicaaGreatDoorOb
import Derived.Test.YtbdimlppnhcicaaGreatDoorOe
import Derived.Test.YtbdimlppnhcicaaGreatDoorMny
import Derived.Test.YtbdimlppnhcicaaGreatDoorRo1
import Derived.Test.YtbdimlppnhcicaaGreatDoorOf
import Derived.Test.YtbdimlppnhcicaaGreatDoorOh
import Derived.Test.YtbdimlppnhcicaaGreatDoorOj
import Derived.Test.YtbdimlppnhcicaaGreatDoorRo2
import Derived.Test.YtbdimlppnhcicaaGreatDoorRo3
import Derived.Test.YtbdimlppnhcicaaGreatDoorRo4
import Derived.Test.YtbdimlppnhcicaaGreatDoorRo5
import Derived.Test.YtbdimlppnhcicaaGreatDoorRo7
namespace Go.Proofs.YtbdimlppnhcicaaGreatDoor
set_option linter.unusedVariables false
open Go.RowKit Rte
/-! route: Fee, Check -/
theorem rfee_any (p : Plc) (a : Int) (w : World) : Calls Tryz.prog 26 #[plcV p, .int .i64 a] w (Mny.OptPost (Mny.feeO a p.base p.rate) w) := by
  obtain ⟨pc, pf, ps, pb, pr, pd, pmn, pmx, po⟩ := p
  obtain ⟨o, ho⟩ : ∃ o, Mny.feeO a pb pr = o := ⟨_, rfl⟩
  show Calls Tryz.prog 26 #[.agg #[.string pc, .string pf, .int .i64 ps, .int .i64 pb, .int .i64 pr, .int .i64 pd, .int .i64 pmn, .int .i64 pmx, .bool po], .int .i64 a] w (Mny.OptPost (Mny.feeO a pb pr) w)
  rw [ho]
  have HO := Lib.hid ho
  cases o with
  | none =>
    clear ho
    go_enter Tryz.func26, Tryz.ntmps26
    go_wp2_with ((go_at_call 90; (with_reducible refine Calls.mono (Mny.fee_any a pb pr _) ?_); rintro e w1 h; obtain ⟨rfl, hb⟩ := Mny.opt_none h HO.out; have B1 : Hid (Below w.heap.size w w1) := btr (below_new' _ _) hb; clear h hb))
    go_ret2
    exact Mny.OptPost.no B1.out rfl
  | some v =>
    clear ho
    go_enter Tryz.func26, Tryz.ntmps26
    go_wp2_with ((go_at_call 90; (with_reducible refine Calls.mono (Mny.fee_any a pb pr _) ?_); rintro e w1 h; obtain ⟨rfl, hb⟩ := Mny.opt_some h HO.out; have B1 : Hid (Below w.heap.size w w1) := btr (below_new' _ _) hb; clear h hb))
    go_ret2
    exact Mny.OptPost.yes B1.out rfl
theorem dfee_any (p : Plc) (a : Int) (w : World) : Calls Tryz.prog 27 #[plcV p, .int .i64 a] w (Mny.OptPost (Mny.feeO a p.base p.rate) w) := by
  obtain ⟨pc, pf, ps, pb, pr, pd, pmn, pmx, po⟩ := p
  obtain ⟨o, ho⟩ : ∃ o, Mny.feeO a pb pr = o := ⟨_, rfl⟩
  show Calls Tryz.prog 27 #[.agg #[.string pc, .string pf, .int .i64 ps, .int .i64 pb, .int .i64 pr, .int .i64 pd, .int .i64 pmn, .int .i64 pmx, .bool po], .int .i64 a] w (Mny.OptPost (Mny.feeO a pb pr) w)
  rw [ho]
  have HO := Lib.hid ho
  cases o with
  | none =>
    clear ho
    go_enter Tryz.func27, Tryz.ntmps27
    go_wp2_with ((go_at_call 91; (with_reducible refine Calls.mono (Mny.feer_any a pb pr _) ?_); rintro e w1 h; obtain ⟨rfl, hb⟩ := Mny.opt_none h HO.out; have B1 : Hid (Below w.heap.size w w1) := btr (below_new' _ _) hb; clear h hb))
    go_ret2
    exact Mny.OptPost.no B1.out rfl
  | some v =>
    clear ho
    go_enter Tryz.func27, Tryz.ntmps27
    go_wp2_with ((go_at_call 91; (with_reducible refine Calls.mono (Mny.feer_any a pb pr _) ?_); rintro e w1 h; obtain ⟨rfl, hb⟩ := Mny.opt_some h HO.out; have B1 : Hid (Below w.heap.size w w1) := btr (below_new' _ _) hb; clear h hb))
    go_ret2
    exact Mny.OptPost.yes B1.out rfl
/-! the set of nodes that were met -/
theorem run_findT (h : ByteArray) (es : List MapEntry) (L : List ByteArray) (w : World) (hl : LiesG kvK es L) : (Instr.findKey 23 (.string h) es).run Tryz.prog w = .ok ((posP (isK h) L 0).map fun x => (x.1, .bool true)) w := by
  simp only [Instr.findKey, Sem.run_bind, run_underlying Tryz.underlying23, Result.andThen_ok, run_findNowS h es L 0 hl, Sem.run_pure]
theorem run_checkKeyT (e : Bool) (h : ByteArray) (w : World) : (Instr.checkKey e 10000 23 (.string h)).run Tryz.prog w = .ok () w := by kernel_rfl
theorem run_lookT (h : ByteArray) (es : Array MapEntry) (c mm : Nat) (L : List ByteArray) (w : World) (hl : LiesG kvK es.toList L) (hb : w.heap[mm]? = some (.map es c)) :
    (Instr.lookup 161 (.map (some mm)) (.string h) false).run Tryz.prog w = .ok (.bool (decide (h ∈ L))) w := by
  have hz : (zeroValue 4).run Tryz.prog w = .ok (.bool false) w := by kernel_rfl
  have hf := run_findT h es.toList L w hl
  simp only [Instr.lookup, Sem.run_bind, run_underlying Tryz.underlying161, Result.andThen_ok, run_getObj_map w mm es c hb, Sem.run_pure, run_checkKeyT, hf]
  rw [← posS_mem h L 0]
  cases posP (isK h) L 0 with
  | none => simp [hz, go_sem]
  | some x => simp [go_sem]
theorem run_updT (h : ByteArray) (es : Array MapEntry) (c mm : Nat) (L : List ByteArray) (w : World) (hl : LiesG kvK es.toList L) (hb : w.heap[mm]? = some (.map es c)) :
    ∃ es' c' L', (Instr.mapUpdate 161 (.map (some mm)) (.string h) (.bool true)).run Tryz.prog w = .ok () (putO w mm (.map es' c')) ∧ LiesG kvK es'.toList L' ∧ ∀ t, t ∈ L' ↔ t = h ∨ t ∈ L := by
  have hf := run_findT h es.toList L w hl
  cases hp : posP (isK h) L 0 with
  | none =>
    rw [hp] at hf
    refine ⟨es.push ⟨.string h, .bool true, c⟩, c + 1, L ++ [h], ?_, LiesG.push (kv := kvK) hl h c, fun t => by simp [or_comm]⟩
    simp only [Instr.mapUpdate, Sem.run_bind, run_underlying Tryz.underlying161, Result.andThen_ok, run_getObj_map w mm es c hb, run_checkKeyT, hf, Option.map_none, MapKept.run_setObj_map _ hb]
    rfl
  | some y =>
    obtain ⟨i, t⟩ := y
    rw [hp] at hf
    obtain ⟨_, h2, h3⟩ := posP_spec _ _ _ _ _ hp
    have ht : h = t := (ba_beq _ _).1 h3
    simp only [Nat.sub_zero] at h2
    have hlen : es.toList.length = L.length := by have := congrArg List.length hl; simpa using this
    have hi : i < L.length := by
      rcases Nat.lt_or_ge i L.length with h | h
      · exact h
      · rw [List.getElem?_eq_none h] at h2; cases h2
    have hie : i < es.size := by rw [← hlen] at hi; simpa using hi
    have hke : es[i].key = .string h := by
      have := congrArg (fun l => l[i]?) hl
      simp only [List.getElem?_map, h2, Option.map_some, Array.getElem?_toList, Array.getElem?_eq_getElem hie, Option.some.injEq] at this
      rw [ht]; exact congrArg Prod.fst this
    have hve : es[i].val = .bool true := by
      have := congrArg (fun l => l[i]?) hl
      simp only [List.getElem?_map, h2, Option.map_some, Array.getElem?_toList, Array.getElem?_eq_getElem hie, Option.some.injEq] at this
      exact congrArg Prod.snd this
    have hsb : Instr.sameBits 10000 (.string h) (.string h) = true := by
      show (h == h) = true
      simp
    refine ⟨es.modify i fun e => { e with key := .string h, val := .bool true }, c, L, ?_, ?_, fun t' => ⟨fun h => .inr h, fun h => ?_⟩⟩
    · simp only [Instr.mapUpdate, Sem.run_bind, run_underlying Tryz.underlying161, Result.andThen_ok, run_getObj_map w mm es c hb, run_checkKeyT, hf, Option.map_some, Array.getElem?_eq_getElem hie, Option.getD_some, hke, Instr.keyThatStays, hsb, if_true, Sem.run_pure, MapKept.run_setObj_map _ hb]
      rfl
    · unfold LiesG at *
      rw [Array.toList_modify, ← hl]
      apply List.ext_getElem
      · simp
      · intro k h1 h2
        simp only [List.getElem_map, List.getElem_modify]
        by_cases hk : i = k
        · subst hk
          simp only [if_true]
          rw [Array.getElem_toList, hke, hve]
        · simp [hk]
    · rcases h with rfl | h
      · rw [ht]; exact List.mem_of_getElem? h2
      · exact h
/-- while hops are gone through -/
structure CkS (w : World) (ask : Array Value) (nb mm : Nat) (v : Value) (L : List Plc) (Ws : List WayE) (tm : Nat) (met : List ByteArray) (W : World) : Prop where
  o : OfS w ask nb mm v L Ws W
  m : ∃ es c K, W.heap[tm]? = some (.map es c) ∧ LiesG kvK es.toList K ∧ ∀ t, t ∈ K ↔ t ∈ met
  g : w.heap.size ≤ tm
  ne : tm ≠ mm
theorem CkS.next {w : World} {ask : Array Value} {nb mm : Nat} {v : Value} {L : List Plc} {Ws : List WayE} {tm : Nat} {met : List ByteArray} {W W' : World} (h : CkS w ask nb mm v L Ws tm met W) (hb : Below W.heap.size W W') : CkS w ask nb mm v L Ws tm met W' := by
  obtain ⟨es, c, K, h1, h2, h3⟩ := h.m
  exact ⟨h.o.next hb, ⟨es, c, K, (hb.block tm (lt_of_heap h1)).trans h1, h2, h3⟩, h.g, h.ne⟩
theorem CkS.add {w : World} {ask : Array Value} {nb mm : Nat} {v : Value} {L : List Plc} {Ws : List WayE} {tm : Nat} {met : List ByteArray} {W : World} (h : CkS w ask nb mm v L Ws tm met W) (s : ByteArray) : ∃ es c, (Instr.mapUpdate 161 (.map (some tm)) (.string s) (.bool true)).run Tryz.prog W = .ok () (putO W tm (.map es c)) ∧ CkS w ask nb mm v L Ws tm (s :: met) (putO W tm (.map es c)) := by
  obtain ⟨es, c, K, h1, h2, h3⟩ := h.m
  obtain ⟨es', c', K', hu, hl, hk⟩ := run_updT s es c tm K W h2 h1
  exact ⟨es', c', hu, h.o.putK h1 h.ne h.g, ⟨es', c', K', putO_same h1, hl, fun t => by rw [hk t, h3 t, List.mem_cons]⟩, h.g, h.ne⟩
theorem CkS.look {w : World} {ask : Array Value} {nb mm : Nat} {v : Value} {L : List Plc} {Ws : List WayE} {tm : Nat} {met : List ByteArray} {W : World} (h : CkS w ask nb mm v L Ws tm met W) (s : ByteArray) : (Instr.lookup 161 (.map (some tm)) (.string s) false).run Tryz.prog W = .ok (.bool (decide (s ∈ met))) W := by
  obtain ⟨es, c, K, h1, h2, h3⟩ := h.m
  rw [run_lookT s es c tm K W h2 h1]
  have : decide (s ∈ K) = decide (s ∈ met) := decide_eq_decide.2 (h3 s)
  rw [this]
theorem CkS.new {w W : World} {ask : Array Value} {nb mm : Nat} {v : Value} {L : List Plc} {Ws : List WayE} (h : OfS w ask nb mm v L Ws W) (s : ByteArray) : ∃ es c, (Instr.mapUpdate 161 (.map (some W.heap.size)) (.string s) (.bool true)).run Tryz.prog (W.alloc (.map #[] 0)) = .ok () (putO (W.alloc (.map #[] 0)) W.heap.size (.map es c)) ∧ CkS w ask nb mm v L Ws W.heap.size [s] (putO (W.alloc (.map #[] 0)) W.heap.size (.map es c)) := by
  obtain ⟨es0, c0, hm, _⟩ := h.net.m
  have hl := lt_of_heap hm
  have hs := h.bel.size
  exact CkS.add (met := []) ⟨h.next (below_new' _ _), ⟨#[], 0, [], heap_alloc_at _ _, rfl, fun t => by simp⟩, hs, by omega⟩ s
def leadF (a : ByteArray) (h : Hp) (x : Rte.Way) : Bool := decide (x.chan = h.chan ∧ x.frm = a ∧ x.dst = h.node ∧ 0 ≤ h.amt ∧ h.amt ≤ x.cap * 1000)
theorem any_take {α : Type} (f : α → Bool) {l : List α} {i : Nat} {x : α} (hx : l[i]? = some x) : (l.take (i + 1)).any f = ((l.take i).any f || f x) := by
  rw [List.take_add_one, hx, List.any_append]; simp
def prevH (l : List Hp) (i : Nat) : Option Hp := if i = 0 then none else l[i - 1]?
def CheckPost (r : Bool × Int) (w : World) (e : Ending) (w' : World) : Prop := e = .returned (.tuple #[.bool r.1, .int .i64 r.2]) ∧ Below w.heap.size w w'
def HopOk (h : Hp) : Prop := -9223372036854775808 ≤ h.exp ∧ h.exp ≤ 9223372036854775807
theorem leads_cap {W : List Rte.Way} {a : ByteArray} {h : Hp} (hc : ∀ x ∈ W, 0 ≤ x.cap ∧ x.cap ≤ 2100000000000000) (hl : leads W a h = true) : 0 ≤ h.amt ∧ h.amt ≤ 2100000000000000000 := by
  obtain ⟨w, hw, _, _, _, h1, h2⟩ := (leads_iff ..).1 hl
  have := hc w hw
  exact ⟨h1, by omega⟩
set_option maxRecDepth 100000 in
set_option maxHeartbeats 8000000 in
theorem check_no (oe : Option Addr) (E : List Edg) (ce : Nat) (op : Option Addr) (P : List Plc) (cp : Nat) (A : AskR) (ob : Option Addr) (cb : Nat) (ol : Option Addr) (l : List Hp) (cl : Nat) (w : World) (hs1 : A.frm.size ≤ maxLen) (hs2 : A.dst.size ≤ maxLen) (hL : LibOk w)
    (hE : RowsAt 4 edgC oe E w) (hP : RowsAt 9 plcC op P w) (hB : StrsAt ob A.bad w) (h0 : refusedN isKey E P A ≠ 0) : Calls Tryz.prog 24 #[.slice oe E.length ce, .slice op P.length cp, askV A ob cb, .slice ol l.length cl] w (CheckPost (checkN isKey E P A l) w) := by
  have hf : checkN isKey E P A l = (false, refusedN isKey E P A) := by unfold checkN; rw [if_pos h0]
  rw [hf]
  have HN := Lib.hid (fun W (h : Below w.heap.size w W) => net_any oe E ce op P cp A ob cb W hs1 hs2 (hL.below h) (hE.below h) (hP.below h) (by
    rcases hB with k | ⟨b, off, k1, k2⟩
    · exact .inl k
    · exact .inr ⟨b, off, k1, fun i s hi => cell_later' h (k2 i s hi)⟩))
  obtain ⟨af, ad, aa, ax, al, ae, bad⟩ := A
  unfold askV at HN ⊢
  dsimp only at HN ⊢
  obtain ⟨c, hc⟩ : ∃ c, refusedN isKey E P ⟨af, ad, aa, ax, al, ae, bad⟩ = c := ⟨_, rfl⟩
  have HC := Lib.hid hc
  rw [hc] at h0 ⊢
  have H0 := Lib.hid h0
  have e1 : (c != 0) = true := by simpa using h0
  clear hc h0 hf hL hE hP hB hs1 hs2
  go_enter Tryz.func24, Tryz.ntmps24
  go_wp2_with ((go_at_call 77; (with_reducible refine Calls.mono (HN.out _ (below_new' _ _)) ?_); rintro e w1 ⟨hb1, hno, -⟩; rw [HC.out] at hno; obtain rfl := hno H0.out; have B1 : Hid (Below w.heap.size w w1) := btr (below_new' _ _) hb1; clear hb1 hno))
  go_ret2
  exact ⟨rfl, B1.out⟩
set_option maxRecDepth 100000 in
set_option maxHeartbeats 8000000 in
theorem check_len (oe : Option Addr) (E : List Edg) (ce : Nat) (op : Option Addr) (P : List Plc) (cp : Nat) (A : AskR) (ob : Option Addr) (cb : Nat) (ol : Option Addr) (l : List Hp) (cl : Nat) (w : World) (hs1 : A.frm.size ≤ maxLen) (hs2 : A.dst.size ≤ maxLen) (hL : LibOk w)
    (hE : RowsAt 4 edgC oe E w) (hP : RowsAt 9 plcC op P w) (hB : StrsAt ob A.bad w) (h0 : refusedN isKey E P A = 0) (hlen : l.length = 0 ∨ 20 < l.length) : Calls Tryz.prog 24 #[.slice oe E.length ce, .slice op P.length cp, askV A ob cb, .slice ol l.length cl] w (CheckPost (checkN isKey E P A l) w) := by
  have hf : checkN isKey E P A l = (false, 0) := by unfold checkN; rw [if_neg (by rw [h0]; decide), if_pos hlen]
  rw [hf]
  have HN := Lib.hid (fun W (h : Below w.heap.size w W) => net_any oe E ce op P cp A ob cb W hs1 hs2 (hL.below h) (hE.below h) (hP.below h) (by
    rcases hB with k | ⟨b, off, k1, k2⟩
    · exact .inl k
    · exact .inr ⟨b, off, k1, fun i s hi => cell_later' h (k2 i s hi)⟩))
  obtain ⟨af, ad, aa, ax, al, ae, bad⟩ := A
  unfold askV at HN ⊢
  dsimp only at HN ⊢
  have HC := Lib.hid h0
  obtain ⟨n, hn⟩ : ∃ n : Nat, l.length = n := ⟨_, rfl⟩
  have hlen' : n = 0 ∨ 20 < n := by omega
  rw [hn]
  clear h0 hf hL hE hP hB hs1 hs2 hlen hn
  rcases hlen' with rfl | hlen'
  · go_enter Tryz.func24, Tryz.ntmps24
    go_wp2_with ((go_at_call 77; (with_reducible refine Calls.mono (HN.out _ (below_new' _ _)) ?_); rintro e w1 ⟨hb1, -, hyes⟩; obtain ⟨nb, rfl, -⟩ := hyes HC.out; have B1 : Hid (Below w.heap.size w w1) := btr (below_new' _ _) hb1; clear hb1 hyes))
    go_ret2
    exact ⟨rfl, B1.out⟩
  · have e1 : ((n : Int) == 0) = false := by simp; omega
    have e2 : decide ((20 : Int) < (n : Int)) = true := decide_eq_true (by omega)
    clear hlen'
    go_enter Tryz.func24, Tryz.ntmps24
    go_wp2_with ((go_at_call 77; (with_reducible refine Calls.mono (HN.out _ (below_new' _ _)) ?_); rintro e w1 ⟨hb1, -, hyes⟩; obtain ⟨nb, rfl, -⟩ := hyes HC.out; have B1 : Hid (Below w.heap.size w w1) := btr (below_new' _ _) hb1; clear hb1 hyes))
    go_ret2
    exact ⟨rfl, B1.out⟩
end Go.Proofs.YtbdimlppnhcicaaGreatDoor
/- route: Check -/
namespace Go.Proofs.YtbdimlppnhcicaaGreatDoor
set_option linter.unusedVariables false
open Go.RowKit Rte
/-! route: Check, of what is not refused -/
theorem go_none {P : List Plc} {W : List Rte.Way} {met : List ByteArray} {a : ByteArray} {pr : Option Hp} {h : Hp} {r : List Hp} {res : Option ByteArray} (hg : checkGo P W met a pr (h :: r) = res) (hc : leads W a h = false ∨ h.node ∈ met ∨ linkB P a pr h = false) : res = none := by
  rw [← hg, checkGo, if_pos hc]
theorem go_some {P : List Plc} {W : List Rte.Way} {met : List ByteArray} {a : ByteArray} {pr : Option Hp} {h : Hp} {r : List Hp} {res : Option ByteArray} (hg : checkGo P W met a pr (h :: r) = res) (h1 : leads W a h = true) (h2 : h.node ∉ met) (h3 : linkB P a pr h = true) : checkGo P W (h.node :: met) h.node (some h) r = res := by
  rw [← hg, checkGo, if_neg]
  rintro (e | e | e)
  · rw [h1] at e; cases e
  · exact h2 e
  · rw [h3] at e; cases e
theorem ends_f {A : AskR} {l : List Hp} {a : ByteArray} {f g : Hp} (hf : l.headD hpZ = f) (hg : l.getLastD hpZ = g) (hc : ¬ (a = A.dst ∧ g.amt = A.amt ∧ g.exp = A.exp ∧ f.amt - A.amt ≤ A.fee ∧ f.exp ≤ A.latest)) : endsB A l (some a) = false := by
  unfold endsB; dsimp only; rw [hf, hg]; exact decide_eq_false hc
theorem ends_t {A : AskR} {l : List Hp} {a : ByteArray} {f g : Hp} (hf : l.headD hpZ = f) (hg : l.getLastD hpZ = g) (hc : a = A.dst ∧ g.amt = A.amt ∧ g.exp = A.exp ∧ f.amt - A.amt ≤ A.fee ∧ f.exp ≤ A.latest) : endsB A l (some a) = true := by
  unfold endsB; dsimp only; rw [hf, hg]; exact decide_eq_true hc
set_option maxRecDepth 100000 in
set_option maxHeartbeats 16000000 in
theorem check_yes (oe : Option Addr) (E : List Edg) (ce : Nat) (op : Option Addr) (P : List Plc) (cp : Nat) (A : AskR) (ob : Option Addr) (cb : Nat) (ol : Option Addr) (l : List Hp) (cl : Nat) (w : World) (hs1 : A.frm.size ≤ maxLen) (hs2 : A.dst.size ≤ maxLen) (hL : LibOk w)
    (hE : RowsAt 4 edgC oe E w) (hP : RowsAt 9 plcC op P w) (hB : StrsAt ob A.bad w) (hl : RowsAt 4 hpC ol l w) (hlk : ∀ h ∈ l, HopOk h) (h0 : refusedN isKey E P A = 0) (hl0 : l.length ≠ 0) (hl1 : l.length ≤ 20) : Calls Tryz.prog 24 #[.slice oe E.length ce, .slice op P.length cp, askV A ob cb, .slice ol l.length cl] w (CheckPost (checkN isKey E P A l) w) := by
  have hf : checkN isKey E P A l = (endsB A l (checkGo P (waysGo A.bad E) [A.frm] A.frm none l), 0) := by unfold checkN; rw [if_neg (by rw [h0]; decide), if_neg (by omega)]
  rw [hf]
  have HN := Lib.hid (fun W (h : Below w.heap.size w W) => net_any oe E ce op P cp A ob cb W hs1 hs2 (hL.below h) (hE.below h) (hP.below h) (by
    rcases hB with k | ⟨b, off, k1, k2⟩
    · exact .inl k
    · exact .inr ⟨b, off, k1, fun i s hi => cell_later' h (k2 i s hi)⟩))
  have HFi := Lib.hid (fine_of h0)
  obtain ⟨ways, hways⟩ : ∃ ws, waysGo A.bad E = ws := ⟨_, rfl⟩
  rw [hways]
  have HCAP : Hid (∀ x ∈ ways, 0 ≤ x.cap ∧ x.cap ≤ 2100000000000000) := by rw [← hways]; exact ways_cap (Q := fun c => 0 ≤ c ∧ c ≤ 2100000000000000) E _ (fine_of h0).edg
  have HLEN : Hid (ways.length ≤ 512) := by rw [← hways]; have := ways_len E A.bad; have := (fine_of h0).el; show _ ≤ _; omega
  obtain ⟨res, hres⟩ : ∃ o, checkGo P ways [A.frm] A.frm none l = o := ⟨_, rfl⟩
  rw [hres]
  have HRES := Lib.hid hres
  have HWY := Lib.hid hways
  have H0 := Lib.hid h0
  have HLL := Lib.hid hl
  have HLK := Lib.hid hlk
  have HL0 := Lib.hid hl0
  have HL1 := Lib.hid hl1
  have e1 : ((l.length : Int) == 0) = false := by simp; intro h; exact hl0 (by rw [h]; rfl)
  have e2 : decide ((20 : Int) < (l.length : Int)) = false := decide_eq_false (by omega)
  clear h0 hf hL hE hP hB hs1 hs2 hres hways hl hlk hl0 hl1
  have hmm := @run_makeMap Tryz.prog
  unfold askV at HN ⊢
  obtain ⟨bl, hbl⟩ : ∃ n, A.bad.length = n := ⟨_, rfl⟩
  rw [hbl] at HN ⊢
  clear hbl
  go_enter Tryz.func24, Tryz.ntmps24
  go_wp2_with ((go_at_call 77; (with_reducible refine Calls.mono (HN.out _ (below_new' _ _)) ?_); rintro e w1 ⟨hb1, -, hyes⟩; obtain ⟨nb, rfl, mm, v, L, Ws, hnet, hLP, hLm, hW⟩ := hyes H0.out; have HS : Hid (OfS w (askC A ob bl cb) nb mm v L Ws w1) := OfS.of_net hb1 hnet; have HLP := Lib.hid hLP; have HLM := Lib.hid hLm; have HW := Lib.hid hW; obtain ⟨a0, a1, a2, a3, a4, a5, hl0⟩ := ask_at HS.out.box; obtain ⟨es1, c1, hins, hck⟩ := CkS.new HS.out A.frm; have HCK := Lib.hid hck; obtain ⟨b0, b1, b2, b3, b4, b5, hl2⟩ := ask_at hck.o.box; clear hb1 hyes hnet hLP hLm hW hck))
  clear hins hl0 a0 a1 a2 a3 a4 a5 hl2 b0 b1 b2 b3 b4 b5 HN H0 e1 e2 hmm
  rw [HWY.out] at HW
  obtain ⟨va, vc, rfl⟩ := own_slice HS.out.net.own
  have HWL : Hid (Ws.length ≤ 512) := by have h1 := HLEN.out; rw [← HW.out, List.length_map] at h1; exact h1
  generalize putO (w1.alloc (.map #[] 0)) w1.heap.size (.map es1 c1) = w2 at HCK ⊢
  clear HS
  generalize w1.heap.size = tm at HCK ⊢
  clear w1
  go_loopw [47, 13] (fun iv av wr => ∃ (i : Nat) (a : ByteArray) (met : List ByteArray), i ≤ l.length ∧ iv = .int .i64 i ∧ av = .string a ∧ Hid (CkS w (askC A ob bl cb) nb mm (.slice va Ws.length vc) L Ws tm met wr) ∧ Hid (checkGo P ways met a (prevH l i) (l.drop i) = res)) (fun iv _ _ => l.length - (intOf iv).toNat)
  case atStart => exact ⟨0, A.frm, [A.frm], Nat.zero_le _, rfl, rfl, HCK.out, HRES.out⟩
  case round =>
    clear HCK
    obtain ⟨i, a, met, hi, rfl, rfl, hS, hG⟩ := hrel
    by_cases hlt : i < l.length
    · obtain ⟨⟨hch, hnd, ham, hex⟩, hh⟩ : ∃ h, l[i]? = some h := ⟨_, List.getElem?_eq_getElem hlt⟩
      obtain ⟨pb, po, rfl, hc⟩ := rows_at HLL.out hh
      have hdr : l.drop i = ⟨hch, hnd, ham, hex⟩ :: l.drop (i + 1) := by rw [List.drop_eq_getElem_cons hlt]; congr 1; rw [List.getElem?_eq_getElem hlt] at hh; exact Option.some.inj hh
      rw [hdr] at hG
      have z0 : wr.cell? ⟨pb, po + i * 4, none⟩ = some (.string hch) := cell_later' hS.out.o.bel (hc 0 _ rfl)
      have z1 : wr.cell? ⟨pb, po + i * 4 + 1, none⟩ = some (.string hnd) := cell_later' hS.out.o.bel (hc 1 _ rfl)
      have z2 : wr.cell? ⟨pb, po + i * 4 + 2, none⟩ = some (.int .i64 ham) := cell_later' hS.out.o.bel (hc 2 _ rfl)
      have z3 : wr.cell? ⟨pb, po + i * 4 + 3, none⟩ = some (.int .i64 hex) := cell_later' hS.out.o.bel (hc 3 _ rfl)
      have hii : (i : Int) < (l.length : Int) := by omega
      have hii2 : (l.length : Int) ≤ 20 := by have := HL1.out; omega
      have HS5 := Lib.hid (hS.out.next (below_new' wr (.cells #[.string hch, .string hnd, .int .i64 ham, .int .i64 hex] 49)))
      have HK5 : Hid ((wr.alloc (.cells #[.string hch, .string hnd, .int .i64 ham, .int .i64 hex] 49)).heap[wr.heap.size]? = some (.cells #[.string hch, .string hnd, .int .i64 ham, .int .i64 hex] 49 (0, 0))) := heap_alloc_at _ _
      have HHH := Lib.hid hh
      obtain ⟨n0, hn1⟩ := net_row HS5.out.o.net
      clear hc hdr hS hh hi
      go_wp2_with fail
      clear z0 z1 z2 z3 n0 hn1
      generalize (wr.alloc (.cells #[.string hch, .string hnd, .int .i64 ham, .int .i64 hex] 49)) = w5 at HS5 HK5 ⊢
      generalize wr.heap.size = xb at HK5 ⊢
      go_loopw [57, 16] (fun kv okv wr => ∃ k : Nat, k ≤ Ws.length ∧ kv = .int .i64 k ∧ okv = .bool ((ways.take k).any (leadF a ⟨hch, hnd, ham, hex⟩)) ∧ Hid (CkS w (askC A ob bl cb) nb mm (.slice va Ws.length vc) L Ws tm met wr) ∧ Hid (wr.heap[xb]? = some (.cells #[.string hch, .string hnd, .int .i64 ham, .int .i64 hex] 49 (0, 0)))) (fun kv _ _ => Ws.length - (intOf kv).toNat)
      case atStart => exact ⟨0, Nat.zero_le _, rfl, rfl, HS5.out, HK5.out⟩
      case round =>
        clear HS5 HK5
        obtain ⟨k, hk, rfl, rfl, hS, hK⟩ := hrel
        by_cases hlt2 : k < Ws.length
        · obtain ⟨x, hx⟩ : ∃ x, Ws[k]? = some x := ⟨_, List.getElem?_eq_getElem hlt2⟩
          have hxw := ways_at HW.out hx
          obtain ⟨⟨ch, cap, fr, dt⟩, ea, eb⟩ := x
          dsimp only at hxw
          have hst := any_take (leadF a ⟨hch, hnd, ham, hex⟩) hxw
          obtain ⟨qb, qo, rfl, z0, z1, z2, z3, z4, z5⟩ := net_way hS.out.o.net hx
          have hkk : (k : Int) < (Ws.length : Int) := by omega
          have hkk2 : (Ws.length : Int) ≤ 512 := by have := HWL.out; omega
          dsimp only at z0 z1 z2 z3 z4 z5
          obtain ⟨cap0, cap1⟩ := HCAP.out _ (List.mem_of_getElem? hxw)
          dsimp only at cap0 cap1
          have hmul : wrap64 (cap * 1000) = cap * 1000 := by unfold wrap64; omega
          have HS6 := Lib.hid (hS.out.next (below_new' wr (.cells #[.string ch, .string ea, .string eb, .int .i64 cap, .string fr, .string dt] 147)))
          have HK6 : Hid ((wr.alloc (.cells #[.string ch, .string ea, .string eb, .int .i64 cap, .string fr, .string dt] 147)).heap[xb]? = some (.cells #[.string hch, .string hnd, .int .i64 ham, .int .i64 hex] 49 (0, 0))) := ((below_new' wr _).block xb (lt_of_heap hK.out)).trans hK.out
          have y0 : wr.cell? ⟨xb, 0, none⟩ = some (.string hch) := by rw [cell_of_row _ _ _ _ _ _ hK.out]; rfl
          have y1 : wr.cell? ⟨xb, 1, none⟩ = some (.string hnd) := by rw [cell_of_row _ _ _ _ _ _ hK.out]; rfl
          have y2 : wr.cell? ⟨xb, 2, none⟩ = some (.int .i64 ham) := by rw [cell_of_row _ _ _ _ _ _ hK.out]; rfl
          have y3 : wr.cell? ⟨xb, 3, none⟩ = some (.int .i64 hex) := by rw [cell_of_row _ _ _ _ _ _ hK.out]; rfl
          have yl := lt_of_heap hK.out
          have HLF : Hid (leadF a ⟨hch, hnd, ham, hex⟩ ⟨ch, cap, fr, dt⟩ = decide (ch = hch ∧ fr = a ∧ dt = hnd ∧ 0 ≤ ham ∧ ham ≤ cap * 1000)) := rfl
          clear hx hxw hk hS hK cap0 cap1
          cases hbb : (ways.take k).any (leadF a ⟨hch, hnd, ham, hex⟩) with
          | true =>
            have HNX : Hid ((ways.take (k + 1)).any (leadF a ⟨hch, hnd, ham, hex⟩) = true) := by show _ = _; rw [hst, hbb]; rfl
            clear hst hbb
            go_wp2_with fail
            go_roundw
            case rel => exact ⟨k + 1, hlt2, by rw [Int.natCast_succ], by rw [HNX.out], HS6.out, HK6.out⟩
            case measure => simp only [intOf]; omega
          | false =>
            have HNF : Hid ((ways.take (k + 1)).any (leadF a ⟨hch, hnd, ham, hex⟩) = leadF a ⟨hch, hnd, ham, hex⟩ ⟨ch, cap, fr, dt⟩) := by show _ = _; rw [hst, hbb]; rfl
            clear hst hbb
            by_cases c1 : ch = hch
            · subst c1
              by_cases c2 : fr = a
              · subst c2
                by_cases c3 : dt = hnd
                · subst c3
                  by_cases c4 : 0 ≤ ham
                  · have d4 : decide (0 ≤ ham) = true := decide_eq_true c4
                    by_cases c5 : ham ≤ cap * 1000
                    · have d5 : decide (ham ≤ cap * 1000) = true := decide_eq_true c5
                      have HNX : Hid ((ways.take (k + 1)).any (leadF fr ⟨ch, dt, ham, hex⟩) = true) := by show _ = _; rw [HNF.out]; exact decide_eq_true ⟨rfl, rfl, rfl, c4, c5⟩
                      clear c4 c5
                      go_wp2_with fail
                      go_roundw
                      case rel => exact ⟨k + 1, hlt2, by rw [Int.natCast_succ], by rw [HNX.out], HS6.out, HK6.out⟩
                      case measure => simp only [intOf]; omega
                    · have d5 : decide (ham ≤ cap * 1000) = false := decide_eq_false c5
                      have HNX : Hid ((ways.take (k + 1)).any (leadF fr ⟨ch, dt, ham, hex⟩) = false) := by show _ = _; rw [HNF.out]; exact decide_eq_false (fun h => c5 h.2.2.2.2)
                      clear c4 c5
                      go_wp2_with fail
                      go_roundw
                      case rel => exact ⟨k + 1, hlt2, by rw [Int.natCast_succ], by rw [HNX.out], HS6.out, HK6.out⟩
                      case measure => simp only [intOf]; omega
                  · have d4 : decide (0 ≤ ham) = false := decide_eq_false c4
                    have HNX : Hid ((ways.take (k + 1)).any (leadF fr ⟨ch, dt, ham, hex⟩) = false) := by show _ = _; rw [HNF.out]; exact decide_eq_false (fun h => c4 h.2.2.2.1)
                    clear c4
                    go_wp2_with fail
                    go_roundw
                    case rel => exact ⟨k + 1, hlt2, by rw [Int.natCast_succ], by rw [HNX.out], HS6.out, HK6.out⟩
                    case measure => simp only [intOf]; omega
                · have q1 := toList_ne c3
                  have HNX : Hid ((ways.take (k + 1)).any (leadF fr ⟨ch, hnd, ham, hex⟩) = false) := by show _ = _; rw [HNF.out]; exact decide_eq_false (fun h => c3 h.2.2.1)
                  clear c3
                  go_wp2_with fail
                  go_roundw
                  case rel => exact ⟨k + 1, hlt2, by rw [Int.natCast_succ], by rw [HNX.out], HS6.out, HK6.out⟩
                  case measure => simp only [intOf]; omega
              · have q1 := toList_ne c2
                have HNX : Hid ((ways.take (k + 1)).any (leadF a ⟨ch, hnd, ham, hex⟩) = false) := by show _ = _; rw [HNF.out]; exact decide_eq_false (fun h => c2 h.2.1)
                clear c2
                go_wp2_with fail
                go_roundw
                case rel => exact ⟨k + 1, hlt2, by rw [Int.natCast_succ], by rw [HNX.out], HS6.out, HK6.out⟩
                case measure => simp only [intOf]; omega
            · have q1 := toList_ne c1
              have HNX : Hid ((ways.take (k + 1)).any (leadF a ⟨hch, hnd, ham, hex⟩) = false) := by show _ = _; rw [HNF.out]; exact decide_eq_false (fun h => c1 h.1)
              clear c1
              go_wp2_with fail
              go_roundw
              case rel => exact ⟨k + 1, hlt2, by rw [Int.natCast_succ], by rw [HNX.out], HS6.out, HK6.out⟩
              case measure => simp only [intOf]; omega
        · obtain rfl : k = Ws.length := by omega
          have HLD : Hid ((ways.take Ws.length).any (leadF a ⟨hch, hnd, ham, hex⟩) = leads ways a ⟨hch, hnd, ham, hex⟩) := by
            show _ = _
            rw [List.take_of_length_le (by rw [← HW.out]; simp)]; rfl
          rw [HLD.out]
          have y0 : wr.cell? ⟨xb, 0, none⟩ = some (.string hch) := by rw [cell_of_row _ _ _ _ _ _ hK.out]; rfl
          have y1 : wr.cell? ⟨xb, 1, none⟩ = some (.string hnd) := by rw [cell_of_row _ _ _ _ _ _ hK.out]; rfl
          have y2 : wr.cell? ⟨xb, 2, none⟩ = some (.int .i64 ham) := by rw [cell_of_row _ _ _ _ _ _ hK.out]; rfl
          have y3 : wr.cell? ⟨xb, 3, none⟩ = some (.int .i64 hex) := by rw [cell_of_row _ _ _ _ _ _ hK.out]; rfl
          have yl := lt_of_heap hK.out
          have hlook := hS.out.look hnd
          clear hk hlt2
          cases hld : leads ways a ⟨hch, hnd, ham, hex⟩ with
          | false =>
            have HE0 : Hid (endsB A l res = false) := by show _ = _; rw [go_none hG.out (.inl hld)]; rfl
            clear hld HLD hG
            go_wp2_with fail
            go_ret2
            exact ⟨by rw [HE0.out]; rfl, hS.out.o.bel⟩
          | true =>
            have HLT := Lib.hid hld
            clear hld HLD
            by_cases hmt : hnd ∈ met
            · rw [decide_eq_true hmt] at hlook
              have HE0 : Hid (endsB A l res = false) := by show _ = _; rw [go_none hG.out (.inr (.inl hmt))]; rfl
              clear hmt hG
              go_wp2_with fail
              go_ret2
              exact ⟨by rw [HE0.out]; rfl, hS.out.o.bel⟩
            · rw [decide_eq_false hmt] at hlook
              have HMT := Lib.hid hmt
              clear hmt
              cases i with
              | zero =>
                have HG2 : Hid (checkGo P ways (hnd :: met) hnd (prevH l (0 + 1)) (l.drop (0 + 1)) = res) := by
                  have h1 := go_some hG.out HLT.out HMT.out rfl
                  have h2 : prevH l (0 + 1) = some ⟨hch, hnd, ham, hex⟩ := HHH.out
                  show _ = _
                  rw [h2]; exact h1
                obtain ⟨es2, c2, hu, hck2⟩ := hS.out.add hnd
                have HC2 := Lib.hid hck2
                clear hck2 hG
                go_wp2_with fail
                go_roundw
                case rel => exact ⟨0 + 1, hnd, hnd :: met, hlt, rfl, rfl, HC2.out, HG2.out⟩
                case measure => simp only [intOf]; omega
              | succ j =>
                obtain ⟨g, hg⟩ : ∃ g, l[j]? = some g := ⟨_, List.getElem?_eq_getElem (by omega)⟩
                obtain ⟨pb', po', epo, hcg⟩ := rows_at HLL.out hg
                cases epo
                have hpr : prevH l (j + 1) = some g := hg
                rw [hpr] at hG
                have HGC2 : Hid (w.cell? ⟨pb, po + j * 4 + 2, none⟩ = some (.int .i64 g.amt)) := hcg 2 _ rfl
                have HGC3 : Hid (w.cell? ⟨pb, po + j * 4 + 3, none⟩ = some (.int .i64 g.exp)) := hcg 3 _ rfl
                obtain ⟨am0, am1⟩ := leads_cap HCAP.out HLT.out
                dsimp only at am0 am1
                obtain ⟨ex0, ex1⟩ := HLK.out _ (List.mem_of_getElem? HHH.out)
                dsimp only at ex0 ex1
                have hbe := before_any nb mm wr.heap.size (.slice va Ws.length vc) L ⟨hch, 0, a, hnd⟩ ⟨#[]⟩ ⟨#[]⟩ ⟨ham, hex, []⟩ (wr.alloc (.cells #[.int .i64 ham, .int .i64 hex, .int .i64 0, .string ⟨#[]⟩, .string ⟨#[]⟩, .int .i64 0, .int .i64 0, .pointer none] 138)) (hS.out.next (below_new' _ _)).o.net.n (hS.out.next (below_new' _ _)).o.net.m (heap_alloc_at _ _) ⟨am0, am1, ex0, ex1, by simp⟩ (plc_sub HLM.out HFi.out.plc)
                rw [bef_congr HLP.out] at hbe
                have HBE : Hid (Calls Tryz.prog 80 #[.pointer (some ⟨nb, 0, none⟩), .agg #[.string hch, .string ⟨#[]⟩, .string ⟨#[]⟩, .int .i64 0, .string a, .string hnd], .pointer (some ⟨wr.heap.size, 0, none⟩)] (wr.alloc (.cells #[.int .i64 ham, .int .i64 hex, .int .i64 0, .string ⟨#[]⟩, .string ⟨#[]⟩, .int .i64 0, .int .i64 0, .pointer none] 138)) (BefPost (beforeW P ⟨hch, 0, a, hnd⟩ ⟨ham, hex, []⟩) (wr.alloc (.cells #[.int .i64 ham, .int .i64 hex, .int .i64 0, .string ⟨#[]⟩, .string ⟨#[]⟩, .int .i64 0, .int .i64 0, .pointer none] 138)))) := hbe
                have hj1 : (0 : Int) < (j : Int) + 1 := by omega
                have hj2 : (j : Int) < (l.length : Int) := by omega
                have hj3 : (j : Int) ≤ 20 := by omega
                have hj4 : wrap64 (j : Int) = (j : Int) := by unfold wrap64; omega
                have HLNK : Hid (linkB P a (some g) ⟨hch, hnd, ham, hex⟩ = match beforeW P ⟨hch, 0, a, hnd⟩ ⟨ham, hex, []⟩ with | none => false | some x => decide (x.amt = g.amt ∧ x.exp = g.exp)) := rfl
                clear hcg hg hpr am0 am1 ex0 ex1 hbe
                cases hbf : beforeW P ⟨hch, 0, a, hnd⟩ ⟨ham, hex, []⟩ with
                | none =>
                  rw [hbf] at HBE HLNK
                  have HE0 : Hid (endsB A l res = false) := by show _ = _; rw [go_none hG.out (.inr (.inr HLNK.out))]; rfl
                  have HSB := Lib.hid hS.out.o.bel
                  clear hbf hG HLNK
                  go_wp2_with ((go_at_call 80; (with_reducible refine Calls.mono HBE.out ?_); rintro e w10 ⟨hb10, rfl⟩; have B10 : Hid (Below w.heap.size w w10) := btr HSB.out (btr (below_new' _ _) hb10); clear hb10))
                  go_quiet (fail)
                  go_wp2_with fail
                  go_ret2
                  exact ⟨by rw [HE0.out]; rfl, bdN B10.out _⟩
                | some z =>
                  rw [hbf] at HBE HLNK
                  have HSN := Lib.hid (fun (W : World) (h : Below wr.heap.size wr W) => hS.out.next h)
                  have HKN := Lib.hid (fun (W : World) (h : Below wr.heap.size wr W) => (h.block xb (lt_of_heap hK.out)).trans hK.out)
                  clear hbf
                  go_wp2_with ((go_at_call 80; (with_reducible refine Calls.mono HBE.out ?_); rintro e w10 ⟨hb10, zb, rfl, hE10⟩; have B10 : Hid (Below wr.heap.size wr w10) := btr (below_new' _ _) hb10; have E10 := Lib.hid hE10; clear hb10 hE10))
                  clear y0 y1 y2 y3 yl hlook hS hK
                  have S10 := Lib.hid (HSN.out _ B10.out)
                  have K10 := Lib.hid (HKN.out _ B10.out)
                  obtain ⟨u0, u1, u2, ul⟩ := end_three E10.out
                  have g2 : w10.cell? ⟨pb, po + j * 4 + 2, none⟩ = some (.int .i64 g.amt) := cell_later' S10.out.o.bel HGC2.out
                  have g3 : w10.cell? ⟨pb, po + j * 4 + 3, none⟩ = some (.int .i64 g.exp) := cell_later' S10.out.o.bel HGC3.out
                  obtain ⟨za, zx, zh⟩ := z
                  obtain ⟨gc, gn, ga, gx⟩ := g
                  dsimp only at u0 u1 g2 g3
                  clear u2 HSN HKN HBE B10 E10 HGC2 HGC3
                  by_cases q1 : za = ga
                  · have f1 : (za != ga) = false := by simp [q1]
                    by_cases q2 : zx = gx
                    · have f2 : (zx != gx) = false := by simp [q2]
                      have HG2 : Hid (checkGo P ways (hnd :: met) hnd (prevH l (j + 1 + 1)) (l.drop (j + 1 + 1)) = res) := by
                        have h1 := go_some hG.out HLT.out HMT.out (by rw [HLNK.out]; exact decide_eq_true ⟨q1, q2⟩)
                        have h2 : prevH l (j + 1 + 1) = some ⟨hch, hnd, ham, hex⟩ := HHH.out
                        show _ = _
                        rw [h2]; exact h1
                      clear q1 q2 hG HLNK
                      go_quiet (fail)
                      generalize hq : w10.drewN _ = w11
                      have S11 : Hid (CkS w (askC A ob bl cb) nb mm (.slice va Ws.length vc) L Ws tm met w11) := by rw [← hq]; exact S10.out.next (bdN (Below.refl _ _) _)
                      have K11 : Hid (w11.heap[xb]? = some (.cells #[.string hch, .string hnd, .int .i64 ham, .int .i64 hex] 49 (0, 0))) := by rw [← hq]; exact K10.out
                      clear hq S10 K10 u0 u1 ul g2 g3 f1 f2
                      have y1 : w11.cell? ⟨xb, 1, none⟩ = some (.string hnd) := by rw [cell_of_row _ _ _ _ _ _ K11.out]; rfl
                      obtain ⟨es2, c2, hu, hck2⟩ := S11.out.add hnd
                      have HC2 := Lib.hid hck2
                      clear hck2
                      go_wp2_with fail
                      go_roundw
                      case rel => exact ⟨j + 1 + 1, hnd, hnd :: met, hlt, by rw [Int.natCast_succ (j + 1), Int.natCast_succ j], rfl, HC2.out, HG2.out⟩
                      case measure => simp only [intOf]; omega
                    · have f2 : (zx != gx) = true := by simp [q2]
                      have HE0 : Hid (endsB A l res = false) := by show _ = _; rw [go_none hG.out (.inr (.inr (by rw [HLNK.out]; exact decide_eq_false (fun h => q2 h.2))))]; rfl
                      clear q1 q2 hG HLNK
                      go_quiet (fail)
                      go_wp2_with fail
                      go_ret2
                      exact ⟨by rw [HE0.out]; rfl, bdN S10.out.o.bel _⟩
                  · have f1 : (za != ga) = true := by simp [q1]
                    have HE0 : Hid (endsB A l res = false) := by show _ = _; rw [go_none hG.out (.inr (.inr (by rw [HLNK.out]; exact decide_eq_false (fun h => q1 h.1))))]; rfl
                    clear q1 hG HLNK
                    go_quiet (fail)
                    go_wp2_with fail
                    go_ret2
                    exact ⟨by rw [HE0.out]; rfl, bdN S10.out.o.bel _⟩
    · obtain rfl : i = l.length := by omega
      have hra : res = some a := by have := hG.out; rw [List.drop_length] at this; exact this.symm
      obtain ⟨f, hf0⟩ : ∃ f, l[0]? = some f := ⟨_, List.getElem?_eq_getElem (by have := HL0.out; omega)⟩
      obtain ⟨m, hm⟩ : ∃ m, l.length = m + 1 := ⟨l.length - 1, by have := HL0.out; omega⟩
      obtain ⟨g, hgm⟩ : ∃ g, l[m]? = some g := ⟨_, List.getElem?_eq_getElem (by omega)⟩
      have HHD : Hid (l.headD hpZ = f) := by
        cases l with
        | nil => cases hf0
        | cons x l => exact Option.some.inj hf0
      have HLA : Hid (l.getLastD hpZ = g) := by
        show _ = _
        rw [List.getLastD_eq_getLast?, List.getLast?_eq_getElem?, hm, Nat.add_sub_cancel, hgm]; rfl
      have hfa : 0 ≤ f.amt ∧ f.amt ≤ 2100000000000000000 := by
        have h1 := HRES.out
        rw [hra] at h1
        cases l with
        | nil => cases hf0
        | cons x l =>
          obtain rfl : x = f := Option.some.inj hf0
          exact leads_cap HCAP.out ((go_cons ..).1 h1).1
      obtain ⟨pb, po, rfl, hcf⟩ := rows_at HLL.out hf0
      obtain ⟨pb', po', epo, hcg⟩ := rows_at HLL.out hgm
      cases epo
      subst hra
      obtain ⟨fc, fn, fa, fx⟩ := f
      obtain ⟨gc, gn, ga, gx⟩ := g
      have z2 : wr.cell? ⟨pb, po + 2, none⟩ = some (.int .i64 fa) := cell_later' hS.out.o.bel (by have := hcf 2 _ rfl; simpa using this)
      have z3 : wr.cell? ⟨pb, po + 3, none⟩ = some (.int .i64 fx) := cell_later' hS.out.o.bel (by have := hcf 3 _ rfl; simpa using this)
      have v0 : wr.cell? ⟨pb, po + m * 4, none⟩ = some (.string gc) := cell_later' hS.out.o.bel (hcg 0 _ rfl)
      have v1 : wr.cell? ⟨pb, po + m * 4 + 1, none⟩ = some (.string gn) := cell_later' hS.out.o.bel (hcg 1 _ rfl)
      have v2 : wr.cell? ⟨pb, po + m * 4 + 2, none⟩ = some (.int .i64 ga) := cell_later' hS.out.o.bel (hcg 2 _ rfl)
      have v3 : wr.cell? ⟨pb, po + m * 4 + 3, none⟩ = some (.int .i64 gx) := cell_later' hS.out.o.bel (hcg 3 _ rfl)
      obtain ⟨a0, a1, a2, a3, a4, a5, al0⟩ := ask_at hS.out.o.box
      have HSB := Lib.hid hS.out.o.bel
      have hm1 : (m : Int) ≤ 20 := by have := HL1.out; omega
      have hm2 : wrap64 (m : Int) = (m : Int) := by unfold wrap64; omega
      have hm0 : (0 : Int) < (m : Int) + 1 := by omega
      have hzl : pb < wr.heap.size := World.block_lt_of_cell? wr _ z2
      rw [hm]
      obtain ⟨aamt, haamt⟩ : ∃ q, A.amt = q := ⟨_, rfl⟩
      have hask := HFi.out.ask
      have hsub : wrap64 (fa - aamt) = fa - aamt := by have h1 := hask.a0; have h2 := hask.a1; dsimp only at hfa; rw [haamt] at h1 h2; unfold wrap64; omega
      obtain ⟨aexp, haexp⟩ : ∃ q, A.exp = q := ⟨_, rfl⟩
      obtain ⟨afee, hafee⟩ : ∃ q, A.fee = q := ⟨_, rfl⟩
      obtain ⟨alat, halat⟩ : ∃ q, A.latest = q := ⟨_, rfl⟩
      obtain ⟨adst, hadst⟩ : ∃ q, A.dst = q := ⟨_, rfl⟩
      have HEF := Lib.hid (fun (hc : ¬ (a = adst ∧ ga = aamt ∧ gx = aexp ∧ fa - aamt ≤ afee ∧ fx ≤ alat)) => ends_f (A := A) (a := a) HHD.out HLA.out (by rw [haamt, haexp, hafee, halat, hadst]; exact hc))
      have HET := Lib.hid (fun (hc : a = adst ∧ ga = aamt ∧ gx = aexp ∧ fa - aamt ≤ afee ∧ fx ≤ alat) => ends_t (A := A) (a := a) HHD.out HLA.out (by rw [haamt, haexp, hafee, halat, hadst]; exact hc))
      rw [hadst] at a1; rw [haamt] at a2; rw [haexp] at a3; rw [halat] at a4; rw [hafee] at a5
      clear hlt hi hG hm hcf hcg hf0 hgm hfa haamt haexp hafee halat hadst hask hS
      by_cases c1 : a = adst
      · subst c1
        by_cases c2 : ga = aamt
        · subst c2
          by_cases c3 : gx = aexp
          · subst c3
            by_cases c4 : fa - ga ≤ afee
            · have d4 : decide (fa - ga ≤ afee) = true := decide_eq_true c4
              by_cases c5 : fx ≤ alat
              · have d5 : decide (fx ≤ alat) = true := decide_eq_true c5
                have HE := Lib.hid (HET.out ⟨rfl, rfl, rfl, c4, c5⟩)
                clear c4 c5
                go_wp2_with fail
                go_quiet (fail)
                go_wp2_with fail
                go_ret2
                exact ⟨by rw [HE.out]; rfl, bdN (btr HSB.out (below_new' _ _)) _⟩
              · have d5 : decide (fx ≤ alat) = false := decide_eq_false c5
                have HE := Lib.hid (HEF.out (fun h => c5 h.2.2.2.2))
                clear c4 c5
                go_wp2_with fail
                go_quiet (fail)
                go_wp2_with fail
                go_ret2
                exact ⟨by rw [HE.out]; rfl, bdN (btr HSB.out (below_new' _ _)) _⟩
            · have d4 : decide (fa - ga ≤ afee) = false := decide_eq_false c4
              have HE := Lib.hid (HEF.out (fun h => c4 h.2.2.2.1))
              clear c4
              go_wp2_with fail
              go_quiet (fail)
              go_wp2_with fail
              go_ret2
              exact ⟨by rw [HE.out]; rfl, bdN (btr HSB.out (below_new' _ _)) _⟩
          · have d3 : (gx == aexp) = false := by simp [c3]
            have HE := Lib.hid (HEF.out (fun h => c3 h.2.2.1))
            clear c3
            go_wp2_with fail
            go_quiet (fail)
            go_wp2_with fail
            go_ret2
            exact ⟨by rw [HE.out]; rfl, bdN (btr HSB.out (below_new' _ _)) _⟩
        · have d2 : (ga == aamt) = false := by simp [c2]
          have HE := Lib.hid (HEF.out (fun h => c2 h.2.1))
          clear c2
          go_wp2_with fail
          go_quiet (fail)
          go_wp2_with fail
          go_ret2
          exact ⟨by rw [HE.out]; rfl, bdN (btr HSB.out (below_new' _ _)) _⟩
      · have q1 := toList_ne c1
        have HE := Lib.hid (HEF.out (fun h => c1 h.1))
        clear c1
        go_wp2_with fail
        go_quiet (fail)
        go_wp2_with fail
        go_ret2
        exact ⟨by rw [HE.out]; rfl, bdN (btr HSB.out (below_new' _ _)) _⟩
theorem check_any (oe : Option Addr) (E : List Edg) (ce : Nat) (op : Option Addr) (P : List Plc) (cp : Nat) (A : AskR) (ob : Option Addr) (cb : Nat) (ol : Option Addr) (l : List Hp) (cl : Nat) (w : World) (hs1 : A.frm.size ≤ maxLen) (hs2 : A.dst.size ≤ maxLen) (hL : LibOk w)
    (hE : RowsAt 4 edgC oe E w) (hP : RowsAt 9 plcC op P w) (hB : StrsAt ob A.bad w) (hl : RowsAt 4 hpC ol l w) (hlk : ∀ h ∈ l, HopOk h) : Calls Tryz.prog 24 #[.slice oe E.length ce, .slice op P.length cp, askV A ob cb, .slice ol l.length cl] w (CheckPost (checkN isKey E P A l) w) := by
  by_cases h0 : refusedN isKey E P A = 0
  · by_cases h1 : l.length = 0 ∨ 20 < l.length
    · exact check_len oe E ce op P cp A ob cb ol l cl w hs1 hs2 hL hE hP hB h0 h1
    · exact check_yes oe E ce op P cp A ob cb ol l cl w hs1 hs2 hL hE hP hB hl hlk h0 (by omega) (by omega)
  · exact check_no oe E ce op P cp A ob cb ol l cl w hs1 hs2 hL hE hP hB h0
end Go.Proofs.YtbdimlppnhcicaaGreatDoor
