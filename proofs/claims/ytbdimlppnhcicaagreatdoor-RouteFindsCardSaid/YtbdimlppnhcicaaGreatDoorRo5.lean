/- route: rows, what is kept is good -/
import Derived.StillTailTactics
import Derived.Lib.ParseIntB
import Derived.Lib.Bytealg
import Derived.Lib.ItoaNum
import Derived.Lib.ParseIntBCases
import Derived.Shelf.Strings.Builder1
import Derived.Shelf.Small.Bits
import Derived.Shelf.Small.Strs
import Derived.Shelf.Small.Wraps
import Derived.Shelf.Strings.BuilderF
import Derived.Shelf.Strings.BuilderK
import Derived.Shelf.Strconv.Itoa0
import Derived.Shelf.Strconv.Itoa1
import Derived.Shelf.LaysM
import Derived.Shelf.Strconv.Itoa2
import Derived.Shelf.Strconv.Itoa3
import Derived.Shelf.Strconv.Itoa4
import Derived.Shelf.Strconv.ParseIntEmpty
import Derived.Shelf.Strconv.Clone
import Derived.Shelf.Strconv.SyntaxError
import Derived.Shelf.LaysC
import Derived.Shelf.Strconv.ToError
import Derived.Shelf.Strconv.Lower
import Derived.Shelf.Strconv.ParseUint10
import Derived.Shelf.Strconv.ParseUint10Empty
import Derived.Shelf.Strconv.ParseUint10Any
import Derived.Shelf.Strconv.ParseInt10
import Derived.Shelf.Strconv.RangeError
import Derived.Shelf.Strconv.ToErrorRange
import Derived.Shelf.Strconv.ParseUintEmpty
import Derived.Shelf.Strconv.ParseUint10b64
import Derived.Shelf.Strconv.ParseUint10b32
import Derived.Shelf.Strconv.ParseUint10b16
import Derived.Shelf.Strconv.ParseUint10b8
import Derived.Shelf.Strconv.ParseUint10At
import Derived.Shelf.Strconv.ParseInt10At64
import Derived.Shelf.Strconv.ParseInt10At32
import Derived.Shelf.Strconv.ParseInt10At16
import Derived.Shelf.Strconv.ParseInt10At8
import Derived.Shelf.Strconv.ParseInt10All
import Derived.Shelf.Strconv.ParseIntPublic10
import Derived.Shelf.Strconv.ErrVarParseInt
import Derived.Shelf.Strings.Search1
import Derived.Shelf.Bits.Mul64
import Derived.Shelf.Strings.BuilderCap
import Derived.Ground.Names2Prog
import Derived.Shelf.Slices.Clone
import Derived.Shelf.Slices.SearchI
import Derived.Ground.SlgnProg
import Derived.Shelf.SlicesE.Clone
import Derived.WalkKit
import Derived.WalkSpells
import Derived.WalkLawsBesides
import Derived.Handy
import Derived.Lib.Hide
import Derived.Deep.QuietTactic
import Derived.BigQuiet
import Derived.Deep.RegionHeld3
import Derived.Lib.Strings
import Derived.Lib.IndexBytes
import Derived.BigRegion
import Derived.Deep.RegionLaw
import Derived.Deep.AppendLies
import Derived.Deep.LoopGhost
import Derived.Deep.Onto
import Derived.Deep.WholeRow
import Derived.Deep.CutRange
import Derived.Laws.CopyOwn
import Derived.Lib.ItoaLen
import Derived.Lib.AppendIntMem
import Derived.Deep.CutBlock
import Derived.Deep.MidRow
import Derived.Deep.RegionHeld
import Derived.Outline
import Derived.Laws.Tables
import Derived.Laws.MakeOwn
import Derived.Laws.OwnMore
import Derived.WalkMore
import Derived.MapKept
import Derived.Carry
import Derived.Test.YtbdimlppnhcicaaGreatDoorRows
import Derived.Test.YtbdimlppnhcicaaGreatDoorProg
import Derived.Test.YtbdimlppnhcicaaGreatDoorNu
import Derived.Test.YtbdimlppnhcicaaGreatDoorTa
import Derived.Test.YtbdimlppnhcicaaGreatDoorRg
import Derived.Test.YtbdimlppnhcicaaGreatDoorBa
import Derived.Test.YtbdimlppnhcicaaGreatDoorO
import Derived.Test.YtbdimlppnhcicaaGreatDoorVa
import Derived.Test.YtbdimlppnhcicaaGreatDoorWg
import Derived.Test.YtbdimlppnhcicaaGreatDoorSo
import Derived.Test.YtbdimlppnhcicaaGreatDoorOnA
import Derived.Test.YtbdimlppnhcicaaGreatDoorOb
import Derived.Test.YtbdimlppnhcicaaGreatDoorOe
import Derived.Test.YtbdimlppnhcicaaGreatDoorRo1
import Derived.Test.YtbdimlppnhcicaaGreatDoorOf
import Derived.Test.YtbdimlppnhcicaaGreatDoorOh
import Derived.Test.YtbdimlppnhcicaaGreatDoorOj
import Derived.Test.YtbdimlppnhcicaaGreatDoorRo2
import Derived.Test.YtbdimlppnhcicaaGreatDoorRo3
import Derived.Test.YtbdimlppnhcicaaGreatDoorRo4
namespace Go.Proofs.YtbdimlppnhcicaaGreatDoor
set_option linter.unusedVariables false
open Go.RowKit Rte
/-! route: rows in general -/
theorem flat_len {α : Type} (cells : α → List Value) (n : Nat) (hn : ∀ x, (cells x).length = n) (l : List α) : (l.flatMap cells).length = l.length * n := by
  induction l with
  | nil => simp
  | cons x l ih => rw [List.flatMap_cons, List.length_append, ih, hn, List.length_cons, Nat.succ_mul]; omega
theorem flat_get {α : Type} (cells : α → List Value) (n : Nat) (hn : ∀ x, (cells x).length = n) : ∀ (l : List α) (k r : Nat) (x : α) (u : Value), l[k]? = some x → (cells x)[r]? = some u → (l.flatMap cells)[k * n + r]? = some u
  | [], k, r, x, u, h1, _ => by simp at h1
  | y :: l, k, r, x, u, h1, h2 => by
    rw [List.flatMap_cons]
    have hl := hn y
    cases k with
    | zero =>
      cases h1
      have hr : r < n := by rw [← hl]; exact (List.getElem?_eq_some_iff.1 h2).1
      rw [List.getElem?_append_left (by omega)]
      rw [show 0 * n + r = r by omega]; exact h2
    | succ k =>
      rw [List.getElem?_append_right (by rw [hl, Nat.succ_mul]; omega), hl, show (k + 1) * n + r - n = k * n + r by rw [Nat.succ_mul]; omega]
      exact flat_get cells n hn l k r x u (by simpa using h1) h2
theorem flat_at {α : Type} (cells : α → List Value) (n : Nat) (hn : ∀ x, (cells x).length = n) : ∀ (l : List α) (j : Nat) (u : Value), (l.flatMap cells)[j]? = some u → ∃ k x r, l[k]? = some x ∧ (cells x)[r]? = some u ∧ j = k * n + r
  | [], j, u, h => by simp at h
  | y :: l, j, u, h => by
    rw [List.flatMap_cons] at h
    have hl := hn y
    rcases Nat.lt_or_ge j n with hj | hj
    · rw [List.getElem?_append_left (by omega)] at h
      exact ⟨0, y, j, rfl, h, by omega⟩
    · rw [List.getElem?_append_right (by omega)] at h
      obtain ⟨k, x, r, h1, h2, h3⟩ := flat_at cells n hn l (j - n) u (by rw [hl] at h; exact h)
      exact ⟨k + 1, x, r, by simpa using h1, h2, by rw [Nat.succ_mul]; omega⟩
/-- a row that the call owns is a row of its elements -/
theorem own_rows {α : Type} {cells : α → List Value} {n : Nat} (hn : ∀ x, (cells x).length = n) {w : World} {base E m : Nat} {v : Value} {l : List α} (h : w.ownsRow base E n v m (l.flatMap cells)) (hm : l.length = m) : ∃ o c, v = .slice o m c ∧ RowsAt n cells o l w := by
  rcases h.2 with ⟨rfl, h0⟩ | ⟨g, cap, cur, rfl, _, h3, _, _, _, h4⟩
  · exact ⟨none, 0, by rw [h0], .inl (List.length_eq_zero_iff.1 (by omega))⟩
  · refine ⟨_, _, rfl, .inr ⟨g, 0, rfl, fun k x hk j u hu => ?_⟩⟩
    have hx := flat_get cells n hn l k j x u hk hu
    rw [← h4, List.getElem?_take] at hx
    split at hx
    · simp only [World.cell?, h3]
      rw [Nat.zero_add]
      simpa using hx
    · cases hx
theorem RowsAt.keep {α : Type} {n : Nat} {cells : α → List Value} {o : Option Addr} {l : List α} {W w' : World} (h : RowsAt n cells o l W) (hc : ∀ x, (cells x).length = n) (hp : 0 < n) (hk : KeepC W w') : RowsAt n cells o l w' := by
  rcases h with h | ⟨b, off, h1, h2⟩
  · exact .inl h
  · refine .inr ⟨b, off, h1, fun k x hx j v hv => ?_⟩
    have hcell := h2 k x hx j v hv
    cases hb : W.heap[b]? with
    | none => simp [World.cell?, hb] at hcell
    | some ob =>
      cases ob with
      | cells cs t f =>
        have hb' := hk b cs t f hb
        simp only [World.cell?, hb] at hcell
        simp only [World.cell?, hb']
        exact hcell
      | _ => simp [World.cell?, hb] at hcell
theorem wayC_len (x : WayE) : (wayC x).length = 6 := rfl
theorem edgC_len (x : Edg) : (edgC x).length = 4 := rfl
theorem plcC_len (x : Plc) : (plcC x).length = 9 := rfl
/-! what is kept is good -/
def GoodR (n : Nat) (R : List (ByteArray × En)) : Prop := ∀ t x, lookR R t = some x → EnOk x ∧ x.hops.length ≤ n
theorem bef_ok {P : List Plc} (hP : ∀ p ∈ P, PlcOk p) {n : Nat} {w : Rte.Way} {v x : En} (hv : EnOk v) (hl : v.hops.length ≤ n) (hn : n ≤ 50) (h : beforeW P w v = some x) : EnOk x ∧ x.hops.length ≤ n + 1 := by
  obtain ⟨_, p, hp, h2⟩ := (bef_iff ..).1 h
  obtain ⟨k1, k2, k3, g, hg, hti, rfl⟩ := (befP_iff ..).1 h2
  have h4 := gross_ge hg
  have h5 := (time_iff _).1 hti
  refine ⟨⟨by dsimp only; omega, h4.2.2, by dsimp only; omega, by dsimp only; omega, by simp only [List.length_cons]; omega⟩, by simp only [List.length_cons]; omega⟩
theorem good_put {n : Nat} {R : List (ByteArray × En)} {t : ByteArray} {x : En} (hR : GoodR n R) (hx : EnOk x) (hl : x.hops.length ≤ n) : GoodR n (putR R t x) := by
  intro s y hy
  rw [look_put] at hy
  by_cases h : t = s
  · rw [if_pos h] at hy
    have hy := Option.some.inj hy
    obtain ⟨b1, _, _⟩ := best_some (lookR R t) x
    rcases b1 with b1 | b1
    · rw [← hy, b1]; exact ⟨hx, hl⟩
    · rw [← hy]; exact hR t _ b1
  · rw [if_neg h] at hy; exact hR s y hy
theorem good_cand {P : List Plc} {A : AskR} (hP : ∀ p ∈ P, PlcOk p) {n : Nat} {prev : List (ByteArray × En)} (hR : GoodR n prev) (hn : n ≤ 50) {w : Rte.Way} {x : En} (h : candW P A prev w = some x) : EnOk x ∧ x.hops.length ≤ n + 1 := by
  obtain ⟨v, hv, _, _, _, hb⟩ := (cand_iff ..).1 h
  obtain ⟨k1, k2⟩ := hR _ _ hv
  exact bef_ok hP k1 k2 hn hb
theorem good_step {P : List Plc} {A : AskR} (hP : ∀ p ∈ P, PlcOk p) {n : Nat} {prev next : List (ByteArray × En)} (hR : GoodR n prev) (hn : n ≤ 50) (hN : GoodR (n + 1) next) (w : Rte.Way) : GoodR (n + 1) (stepW P A prev next w) := by
  unfold stepW
  cases hc : candW P A prev w with
  | none => exact hN
  | some x => obtain ⟨k1, k2⟩ := good_cand hP hR hn hc; exact good_put hN k1 k2
theorem good_fold {P : List Plc} {A : AskR} (hP : ∀ p ∈ P, PlcOk p) {n : Nat} {prev : List (ByteArray × En)} (hR : GoodR n prev) (hn : n ≤ 50) : ∀ (W : List Rte.Way) {next : List (ByteArray × En)}, GoodR (n + 1) next → GoodR (n + 1) (W.foldl (stepW P A prev) next)
  | [], _, h => h
  | w :: W, _, h => by rw [List.foldl_cons]; exact good_fold hP hR hn W (good_step hP hR hn h w)
structure AskOk (A : AskR) : Prop where
  a0 : 1 ≤ A.amt
  a1 : A.amt ≤ 2100000000000000000
  e0 : 0 ≤ A.exp
  e1 : A.exp < 2147483648
  l0 : 0 ≤ A.latest
  l1 : A.latest < 2147483648
  f0 : 0 ≤ A.fee
  f1 : A.fee ≤ 2100000000000000000
  ne : A.frm ≠ A.dst
theorem good_one {A : AskR} (hA : AskOk A) (n : Nat) : GoodR n [(A.dst, startE A)] := by
  intro t x h
  simp only [lookR] at h
  split at h
  · cases h
    exact ⟨⟨by have := hA.a0; show 0 ≤ A.amt; omega, hA.a1, by have := hA.e0; show _ ≤ A.exp; omega, by have := hA.e1; show A.exp ≤ _; omega, by simp [startE]⟩, by simp [startE]⟩
  · cases h
theorem good_reach {P : List Plc} {A : AskR} (hP : ∀ p ∈ P, PlcOk p) (hA : AskOk A) (W : List Rte.Way) : ∀ n, n ≤ 50 → GoodR n (reachN P A W n)
  | 0, _ => good_one hA 0
  | n + 1, h => good_fold hP (good_reach hP hA W n (by omega)) (by omega) W (good_one hA (n + 1))
/-! what an ask that is not refused gives -/
structure Fine (E : List Edg) (P : List Plc) (A : AskR) : Prop where
  ask : AskOk A
  plc : ∀ p ∈ P, PlcOk p
  edg : ∀ e ∈ E, 0 ≤ e.cap ∧ e.cap ≤ 2100000000000000
  el : E.length ≤ 256
  pl : P.length ≤ 512
  bl : A.bad.length ≤ 256
theorem fine_of {E : List Edg} {P : List Plc} {A : AskR} (h : refusedN isKey E P A = 0) : Fine E P A := by
  unfold refusedN at h
  by_cases c1 : 256 < E.length ∨ 512 < P.length ∨ 256 < A.bad.length
  · rw [if_pos c1] at h; cases h
  rw [if_neg c1] at h
  by_cases c2 : isKey A.frm = false ∨ isKey A.dst = false ∨ A.frm = A.dst ∨ timeB A.exp = false ∨ timeB A.latest = false
  · rw [if_pos c2] at h; cases h
  rw [if_neg c2] at h
  by_cases c3 : A.amt < 1 ∨ 2100000000000000000 < A.amt ∨ A.fee < 0 ∨ 2100000000000000000 < A.fee
  · rw [if_pos c3] at h; cases h
  rw [if_neg c3] at h
  by_cases c4 : P.any plcBad = true
  · rw [if_pos c4] at h; cases h
  rw [if_neg c4] at h
  by_cases c5 : E.any edgBad = true
  · rw [if_pos c5] at h; cases h
  have t1 : timeB A.exp = true := by cases k : timeB A.exp; exact absurd (.inr (.inr (.inr (.inl k)))) c2; rfl
  have t2 : timeB A.latest = true := by cases k : timeB A.latest; exact absurd (.inr (.inr (.inr (.inr k)))) c2; rfl
  have t1' := (time_iff _).1 t1
  have t2' := (time_iff _).1 t2
  refine ⟨⟨by omega, by omega, t1'.1, t1'.2, t2'.1, t2'.2, by omega, by omega, fun k => c2 (.inr (.inr (.inl k)))⟩, fun p hp => ?_, fun e he => ?_, by omega, by omega, by omega⟩
  · have : plcBad p = false := by cases k : plcBad p; rfl; exact absurd (List.any_eq_true.2 ⟨p, hp, k⟩) c4
    unfold plcBad at this
    have := of_decide_eq_false this
    exact ⟨by omega, by omega⟩
  · have : edgBad e = false := by cases k : edgBad e; rfl; exact absurd (List.any_eq_true.2 ⟨e, he, k⟩) c5
    unfold edgBad at this
    have := of_decide_eq_false this
    exact ⟨by omega, by omega⟩
theorem ways_cap {Q : Int → Prop} : ∀ (E : List Edg) (met : List ByteArray), (∀ e ∈ E, Q e.cap) → ∀ w ∈ waysGo met E, Q w.cap
  | [], _, _, w, h => by cases h
  | e :: E, met, hE, w, h => by
    unfold waysGo at h
    rcases List.mem_append.1 h with h | h
    · split at h
      · cases h
      · rcases List.mem_cons.1 h with rfl | h
        · exact hE e (List.mem_cons_self ..)
        · rcases List.mem_cons.1 h with rfl | h
          · exact hE e (List.mem_cons_self ..)
          · cases h
    · exact ways_cap E _ (fun e he => hE e (List.mem_cons_of_mem _ he)) w h
theorem ways_len : ∀ (E : List Edg) (met : List ByteArray), (waysGo met E).length ≤ 2 * E.length
  | [], _ => Nat.le_refl _
  | e :: E, met => by
    unfold waysGo
    have ih := ways_len E (e.chan :: met)
    rw [List.length_append, List.length_cons]
    split
    · simp only [List.length_nil]; omega
    · simp only [List.length_cons, List.length_nil]; omega
theorem bef_congr {L P : List Plc} (h : ∀ c f, polOf L c f = polOf P c f) (w : Rte.Way) (v : En) : beforeW L w v = beforeW P w v := by unfold beforeW; rw [h]
/-! what is known while the needs are reckoned -/
theorem ReachAt.keep {W W' : World} {mm : Nat} {R : List (ByteArray × En)} (h : ReachAt W mm R) (hk : KeepC W W') (hm : W'.heap[mm]? = W.heap[mm]?) : ReachAt W' mm R := by
  obtain ⟨es, c, L, h1, h2, h3, h4⟩ := h
  exact ⟨es, c, L, hm.trans h1, h2, h3, fun t ht => (h4 t ht).keep hk⟩
theorem ReachAt.below {W W' : World} {mm : Nat} {R : List (ByteArray × En)} (h : ReachAt W mm R) (hb : Below W.heap.size W W') : ReachAt W' mm R :=
  h.keep (keepC_below hb) (by obtain ⟨es, c, L, h1, _⟩ := h; exact hb.block mm (lt_of_heap h1))
theorem ReachAt.map {W : World} {mm : Nat} {R : List (ByteArray × En)} (h : ReachAt W mm R) : ∃ es c, W.heap[mm]? = some (.map es c) := by obtain ⟨es, c, L, h1, _⟩ := h; exact ⟨es, c, h1⟩
theorem keepC_at {W W' : World} {nm : Nat} (hm : ∃ es c, W.heap[nm]? = some (.map es c)) (h : Fr (fun k => k = nm) W W') : KeepC W W' := by
  obtain ⟨es, c, hm⟩ := hm
  exact keepC_fr hm h
theorem OfS.fr {w : World} {ask : Array Value} {nb mm nm : Nat} {v : Value} {L : List Plc} {Ws : List WayE} {W W' : World} (h : OfS w ask nb mm v L Ws W) (hm : ∃ es c, W.heap[nm]? = some (.map es c)) (hF : Fr (fun k => k = nm) W W') (h1 : w.heap.size ≤ nm) (h2 : nm ≠ mm) : OfS w ask nb mm v L Ws W' := by
  have hk := keepC_at hm hF
  obtain ⟨es0, c0, hm0, hl0⟩ := h.net.m
  refine ⟨⟨hF.os.trans h.bel.os, hF.tape.trans h.bel.tape, hF.output.trans h.bel.output, Nat.le_trans h.bel.size hF.size, fun k hkk => ?_⟩, hk _ _ _ _ h.box, ⟨hk _ _ _ _ h.net.n, ⟨es0, c0, ?_, hl0⟩, ?_, h.net.h1, h.net.h2, h.net.ne⟩⟩
  · exact (hF.block k (Nat.lt_of_lt_of_le hkk h.bel.size) (by omega)).trans (h.bel.block k hkk)
  · exact (hF.block mm (lt_of_heap hm0) (Ne.symm h2)).trans hm0
  · refine own_blocks h.net.own fun g hg => ?_
    obtain ⟨_, cur, hc⟩ := own_cellsB h.net.own hg
    rw [hk _ _ _ _ hc, hc]
structure FdS (w : World) (ask : Array Value) (nb mm : Nat) (v : Value) (L : List Plc) (Ws : List WayE) (lb : Nat) (a x : Int) (pm : Nat) (R : List (ByteArray × En)) (W : World) : Prop where
  o : OfS w ask nb mm v L Ws W
  last : EndAt W lb a x []
  rc : ReachAt W pm R
  pg : w.heap.size ≤ pm
  pne : pm ≠ mm
theorem FdS.next {w : World} {ask : Array Value} {nb mm : Nat} {v : Value} {L : List Plc} {Ws : List WayE} {lb : Nat} {a x : Int} {pm : Nat} {R : List (ByteArray × En)} {W W' : World} (h : FdS w ask nb mm v L Ws lb a x pm R W) (hb : Below W.heap.size W W') : FdS w ask nb mm v L Ws lb a x pm R W' :=
  ⟨h.o.next hb, h.last.below hb, h.rc.below hb, h.pg, h.pne⟩
theorem FdS.fr {w : World} {ask : Array Value} {nb mm nm : Nat} {v : Value} {L : List Plc} {Ws : List WayE} {lb : Nat} {a x : Int} {pm : Nat} {R : List (ByteArray × En)} {W W' : World} (h : FdS w ask nb mm v L Ws lb a x pm R W) (hm : ∃ es c, W.heap[nm]? = some (.map es c)) (hF : Fr (fun k => k = nm) W W') (h1 : w.heap.size ≤ nm) (h2 : nm ≠ mm) (h3 : nm ≠ pm) : FdS w ask nb mm v L Ws lb a x pm R W' := by
  have hk := keepC_at hm hF
  obtain ⟨es, c, hpm⟩ := h.rc.map
  exact ⟨h.o.fr hm hF h1 h2, h.last.keep hk, h.rc.keep hk (hF.block pm (lt_of_heap hpm) (Ne.symm h3)), h.pg, h.pne⟩
/-- while a row of ways is gone through -/
structure FdX (w : World) (ask : Array Value) (nb mm : Nat) (v : Value) (L : List Plc) (Ws : List WayE) (lb : Nat) (a x : Int) (pm : Nat) (R : List (ByteArray × En)) (nm : Nat) (N : List (ByteArray × En)) (W : World) : Prop where
  f : FdS w ask nb mm v L Ws lb a x pm R W
  nx : ReachAt W nm N
  ng : w.heap.size ≤ nm
  n1 : nm ≠ mm
  n2 : nm ≠ pm
theorem FdX.next {w : World} {ask : Array Value} {nb mm : Nat} {v : Value} {L : List Plc} {Ws : List WayE} {lb : Nat} {a x : Int} {pm : Nat} {R : List (ByteArray × En)} {nm : Nat} {N : List (ByteArray × En)} {W W' : World} (h : FdX w ask nb mm v L Ws lb a x pm R nm N W) (hb : Below W.heap.size W W') : FdX w ask nb mm v L Ws lb a x pm R nm N W' :=
  ⟨h.f.next hb, h.nx.below hb, h.ng, h.n1, h.n2⟩
theorem FdX.turn {w : World} {ask : Array Value} {nb mm : Nat} {v : Value} {L : List Plc} {Ws : List WayE} {lb : Nat} {a x : Int} {pm : Nat} {R : List (ByteArray × En)} {nm : Nat} {N N' : List (ByteArray × En)} {W W' : World} (h : FdX w ask nb mm v L Ws lb a x pm R nm N W) (hF : Fr (fun k => k = nm) W W') (hN : ReachAt W' nm N') : FdX w ask nb mm v L Ws lb a x pm R nm N' W' :=
  ⟨h.f.fr h.nx.map hF h.ng h.n1 h.n2, hN, h.ng, h.n1, h.n2⟩
theorem FdX.out {w : World} {ask : Array Value} {nb mm : Nat} {v : Value} {L : List Plc} {Ws : List WayE} {lb : Nat} {a x : Int} {pm : Nat} {R : List (ByteArray × En)} {nm : Nat} {N : List (ByteArray × En)} {W : World} (h : FdX w ask nb mm v L Ws lb a x pm R nm N W) : FdS w ask nb mm v L Ws lb a x nm N W :=
  ⟨h.f.o, h.f.last, h.nx, h.ng, h.n1⟩
/-- a map with one need -/
def oneMap (d : ByteArray) (lb : Nat) : Obj := .map #[⟨.string d, .pointer (some ⟨lb, 0, none⟩), 0⟩] 1
theorem run_insOne (d : ByteArray) (lb mm : Nat) (w : World) (hb : w.heap[mm]? = some (.map #[] 0)) : (Instr.mapUpdate 139 (.map (some mm)) (.string d) (.pointer (some ⟨lb, 0, none⟩))).run Tryz.prog w = .ok () (putO w mm (oneMap d lb)) := by
  have hf := run_findR d [] [] w rfl
  simp only [Instr.mapUpdate, Sem.run_bind, run_underlying Tryz.underlying139, Result.andThen_ok, run_getObj_map w mm #[] 0 hb, run_checkKeyR, hf, posP, Option.map_none, MapKept.run_setObj_map _ hb]
  rfl
theorem FdX.new {w : World} {ask : Array Value} {nb mm : Nat} {v : Value} {L : List Plc} {Ws : List WayE} {lb : Nat} {A : AskR} {pm : Nat} {R : List (ByteArray × En)} {W : World} (h : FdS w ask nb mm v L Ws lb A.amt A.exp pm R W) : FdX w ask nb mm v L Ws lb A.amt A.exp pm R W.heap.size [(A.dst, startE A)] (putO (W.alloc (.map #[] 0)) W.heap.size (oneMap A.dst lb)) := by
  have hb := below_new' W (.map #[] 0)
  have h1 := h.next hb
  have hm : (W.alloc (.map #[] 0)).heap[W.heap.size]? = some (.map #[] 0) := heap_alloc_at _ _
  have hs := h.o.bel.size
  obtain ⟨es, c, hpm⟩ := h.rc.map
  obtain ⟨es0, c0, hm0, hl0⟩ := h.o.net.m
  have l1 := lt_of_heap hpm
  have l2 := lt_of_heap hm0
  have hF : Fr (fun k => k = W.heap.size) (W.alloc (.map #[] 0)) (putO (W.alloc (.map #[] 0)) W.heap.size (oneMap A.dst lb)) := (Fr.refl _ _).putO _ _ rfl
  have hk := keepC_at ⟨_, _, hm⟩ hF
  refine ⟨h1.fr ⟨_, _, hm⟩ hF hs (by omega) (by omega), ⟨_, 1, [(A.dst, lb, startE A)], putO_same hm, rfl, rfl, fun t ht => ?_⟩, hs, by omega, by omega⟩
  obtain rfl : t = (A.dst, lb, startE A) := by simpa using ht
  exact h1.last.keep hk
theorem FdS.first {w : World} {ask : Array Value} {nb mm : Nat} {v : Value} {L : List Plc} {Ws : List WayE} {lb : Nat} {A : AskR} {W : World} (h : OfS w ask nb mm v L Ws W) (hl : EndAt W lb A.amt A.exp []) : FdS w ask nb mm v L Ws lb A.amt A.exp W.heap.size [(A.dst, startE A)] (putO (W.alloc (.map #[] 0)) W.heap.size (oneMap A.dst lb)) := by
  have hb := below_new' W (.map #[] 0)
  have hm : (W.alloc (.map #[] 0)).heap[W.heap.size]? = some (.map #[] 0) := heap_alloc_at _ _
  have hs := h.bel.size
  obtain ⟨es0, c0, hm0, hl0⟩ := h.net.m
  have l2 := lt_of_heap hm0
  have hF : Fr (fun k => k = W.heap.size) (W.alloc (.map #[] 0)) (putO (W.alloc (.map #[] 0)) W.heap.size (oneMap A.dst lb)) := (Fr.refl _ _).putO _ _ rfl
  have hk := keepC_at ⟨_, _, hm⟩ hF
  refine ⟨(h.next hb).fr ⟨_, _, hm⟩ hF hs (by omega), (hl.below hb).keep hk, ⟨_, 1, [(A.dst, lb, startE A)], putO_same hm, rfl, rfl, fun t ht => ?_⟩, hs, by omega⟩
  obtain rfl : t = (A.dst, lb, startE A) := by simpa using ht
  exact (hl.below hb).keep hk
/-- what a node needs, looked up -/
theorem ReachAt.look {W : World} {mm : Nat} {R : List (ByteArray × En)} (h : ReachAt W mm R) (n : ByteArray) : ∃ pv, (∀ W', W'.heap[mm]? = W.heap[mm]? → (Instr.lookup 139 (.map (some mm)) (.string n) false).run Tryz.prog W' = .ok pv W') ∧
    match lookR R n with
    | none => pv = .pointer none
    | some x => ∃ b, pv = .pointer (some ⟨b, 0, none⟩) ∧ EndAt W b x.amt x.exp x.hops := by
  obtain ⟨es, c, L, h1, h2, rfl, h4⟩ := h
  refine ⟨ptrO (posP (isR n) L 0), fun W' hW => run_lookR n es c mm L W' h2 (hW.trans h1), ?_⟩
  rw [look_pos n L 0]
  cases hp : posP (isR n) L 0 with
  | none => rfl
  | some z =>
    obtain ⟨i, t⟩ := z
    obtain ⟨_, q2, q3⟩ := posP_spec _ _ _ _ _ hp
    exact ⟨t.2.1, rfl, h4 t (List.mem_of_getElem? (by simpa using q2))⟩
/-! what is found -/
def hpC (h : Hp) : List Value := [.string h.chan, .string h.node, .int .i64 h.amt, .int .i64 h.exp]
def FindPost (r : List Hp × Int) (w : World) (e : Ending) (w' : World) : Prop :=
  Below w.heap.size w w' ∧ ∃ v, e = .returned (.tuple #[v, .int .i64 r.2]) ∧ w'.ownsRow w.heap.size 49 4 v r.1.length (r.1.flatMap hpC)
end Go.Proofs.YtbdimlppnhcicaaGreatDoor
/- route: Find -/
namespace Go.Proofs.YtbdimlppnhcicaaGreatDoor
set_option linter.unusedVariables false
open Go.RowKit Rte
/-! route: Find -/
theorem own_weak {w : World} {base base' E size n : Nat} {v : Value} {xs : List Value} (h : w.ownsRow base E size v n xs) (hb : base' ≤ base) : w.ownsRow base' E size v n xs := by
  refine ⟨h.1, ?_⟩
  rcases h.2 with h | ⟨g, cap, cur, h1, h2, h3⟩
  · exact .inl h
  · exact .inr ⟨g, cap, cur, h1, Nat.le_trans hb h2, h3⟩
theorem NetS.weak {base base' nb mm : Nat} {v : Value} {L : List Plc} {Ws : List WayE} {W : World} (h : NetS base nb mm v L Ws W) (hb : base' ≤ base) : NetS base' nb mm v L Ws W :=
  { h with own := own_weak h.own hb, h1 := Nat.le_trans hb h.h1, h2 := Nat.le_trans hb h.h2 }
theorem OfS.of_net {w w1 : World} {ask : Array Value} {nb mm : Nat} {v : Value} {L : List Plc} {Ws : List WayE} (hb : Below (w.alloc (.cells ask 39)).heap.size (w.alloc (.cells ask 39)) w1) (hn : NetS (w.alloc (.cells ask 39)).heap.size nb mm v L Ws w1) : OfS w ask nb mm v L Ws w1 :=
  ⟨btr (below_new' w _) hb, (hb.block _ (by simp)).trans (heap_alloc_at _ _), hn.weak (by simp)⟩
set_option maxRecDepth 100000 in
set_option maxHeartbeats 8000000 in
theorem find_no (oe : Option Addr) (E : List Edg) (ce : Nat) (op : Option Addr) (P : List Plc) (cp : Nat) (A : AskR) (ob : Option Addr) (cb : Nat) (w : World) (hs1 : A.frm.size ≤ maxLen) (hs2 : A.dst.size ≤ maxLen) (hL : LibOk w)
    (hE : RowsAt 4 edgC oe E w) (hP : RowsAt 9 plcC op P w) (hB : StrsAt ob A.bad w) (h0 : refusedN isKey E P A ≠ 0) : Calls Tryz.prog 20 #[.slice oe E.length ce, .slice op P.length cp, askV A ob cb] w (FindPost (findN isKey E P A) w) := by
  have hf : findN isKey E P A = ([], refusedN isKey E P A) := by unfold findN; rw [if_pos h0]
  rw [hf]
  have HN := Lib.hid (fun W (h : Below w.heap.size w W) => net_any oe E ce op P cp A ob cb W hs1 hs2 (hL.below h) (hE.below h) (hP.below h) (by
    rcases hB with k | ⟨b, off, k1, k2⟩
    · exact .inl k
    · exact .inr ⟨b, off, k1, fun i s hi => cell_later' h (k2 i s hi)⟩))
  obtain ⟨af, ad, aa, ax, al, ae, bad⟩ := A
  unfold askV at HN ⊢
  dsimp only at HN ⊢
  obtain ⟨c, hc⟩ : ∃ c, refusedN isKey E P ⟨af, ad, aa, ax, al, ae, bad⟩ = c := ⟨_, rfl⟩
  have HC := Lib.hid hc
  rw [hc] at h0 ⊢
  have H0 := Lib.hid h0
  have e1 : (c != 0) = true := by simpa using h0
  clear hc h0 hf hL hE hP hB hs1 hs2
  go_enter Tryz.func20, Tryz.ntmps20
  go_wp2_with ((go_at_call 77; (with_reducible refine Calls.mono (HN.out _ (below_new' _ _)) ?_); rintro e w1 ⟨hb1, hno, -⟩; rw [HC.out] at hno; obtain rfl := hno H0.out; have B1 : Hid (Below w.heap.size w w1) := btr (below_new' _ _) hb1; clear hb1 hno))
  go_ret2
  exact ⟨B1.out, _, rfl, World.ownsRow_nil _ _ _ _⟩
def askC (A : AskR) (ob : Option Addr) (bl cb : Nat) : Array Value := #[.string A.frm, .string A.dst, .int .i64 A.amt, .int .i64 A.exp, .int .i64 A.latest, .int .i64 A.fee, .slice ob bl cb]
theorem ask_at {A : AskR} {ob : Option Addr} {bl cb k : Nat} {W : World} (h : W.heap[k]? = some (.cells (askC A ob bl cb) 39 (0, 0))) : W.cell? ⟨k, 0, none⟩ = some (.string A.frm) ∧ W.cell? ⟨k, 1, none⟩ = some (.string A.dst) ∧ W.cell? ⟨k, 2, none⟩ = some (.int .i64 A.amt) ∧ W.cell? ⟨k, 3, none⟩ = some (.int .i64 A.exp) ∧ W.cell? ⟨k, 4, none⟩ = some (.int .i64 A.latest) ∧ W.cell? ⟨k, 5, none⟩ = some (.int .i64 A.fee) ∧ k < W.heap.size := by
  obtain ⟨a0, a1, a2, a3, a4, a5, a6⟩ := ask_cells h
  exact ⟨a0, a1, a2, a3, a4, a5, lt_of_heap h⟩
/-- while one way is looked at -/
structure FdB (w : World) (ask : Array Value) (nb mm : Nat) (v : Value) (L : List Plc) (Ws : List WayE) (lb : Nat) (a x : Int) (pm : Nat) (R : List (ByteArray × En)) (nm : Nat) (N : List (ByteArray × En)) (b : Nat) (y : En) (xb : Nat) (bx : Array Value) (W : World) : Prop where
  x : FdX w ask nb mm v L Ws lb a x pm R nm N W
  e : EndAt W b y.amt y.exp y.hops
  k : W.heap[xb]? = some (.cells bx 147 (0, 0))
theorem FdB.next {w : World} {ask : Array Value} {nb mm : Nat} {v : Value} {L : List Plc} {Ws : List WayE} {lb : Nat} {a x : Int} {pm : Nat} {R : List (ByteArray × En)} {nm : Nat} {N : List (ByteArray × En)} {b : Nat} {y : En} {xb : Nat} {bx : Array Value} {W W' : World} (h : FdB w ask nb mm v L Ws lb a x pm R nm N b y xb bx W) (hb : Below W.heap.size W W') : FdB w ask nb mm v L Ws lb a x pm R nm N b y xb bx W' :=
  ⟨h.x.next hb, h.e.below hb, (hb.block xb (lt_of_heap h.k)).trans h.k⟩
theorem FdB.turn {w : World} {ask : Array Value} {nb mm : Nat} {v : Value} {L : List Plc} {Ws : List WayE} {lb : Nat} {a x : Int} {pm : Nat} {R : List (ByteArray × En)} {nm : Nat} {N N' : List (ByteArray × En)} {b : Nat} {y : En} {xb : Nat} {bx : Array Value} {W W' : World} (h : FdB w ask nb mm v L Ws lb a x pm R nm N b y xb bx W) (hF : Fr (fun k => k = nm) W W') (hN : ReachAt W' nm N') : FdB w ask nb mm v L Ws lb a x pm R nm N' b y xb bx W' :=
  ⟨h.x.turn hF hN, h.e.keep (keepC_at h.x.nx.map hF), keepC_at h.x.nx.map hF _ _ _ _ h.k⟩
theorem FdB.cells {w : World} {ask : Array Value} {nb mm : Nat} {v : Value} {L : List Plc} {Ws : List WayE} {lb : Nat} {a x : Int} {pm : Nat} {R : List (ByteArray × En)} {nm : Nat} {N : List (ByteArray × En)} {b : Nat} {y : En} {xb : Nat} {c0 c1 c2 c3 c4 c5 : Value} {W : World} (h : FdB w ask nb mm v L Ws lb a x pm R nm N b y xb #[c0, c1, c2, c3, c4, c5] W) :
    W.cell? ⟨xb, 0, none⟩ = some c0 ∧ W.cell? ⟨xb, 1, none⟩ = some c1 ∧ W.cell? ⟨xb, 2, none⟩ = some c2 ∧ W.cell? ⟨xb, 3, none⟩ = some c3 ∧ W.cell? ⟨xb, 4, none⟩ = some c4 ∧ W.cell? ⟨xb, 5, none⟩ = some c5 := by
  refine ⟨?_, ?_, ?_, ?_, ?_, ?_⟩ <;> (rw [cell_of_row _ _ _ _ _ _ h.k]; rfl)
theorem ways_at {Ws : List WayE} {ways : List Rte.Way} (hW : Ws.map (·.1) = ways) {i : Nat} {x : WayE} (hx : Ws[i]? = some x) : ways[i]? = some x.1 := by rw [← hW, List.getElem?_map, hx]; rfl
theorem fold_take {α β : Type} (f : β → α → β) (b : β) {l : List α} {i : Nat} {x : α} (hx : l[i]? = some x) : (l.take (i + 1)).foldl f b = f ((l.take i).foldl f b) x := by
  rw [List.take_add_one, hx, List.foldl_append]; rfl
theorem net_row {base nb mm : Nat} {va : Option Addr} {n vc : Nat} {L : List Plc} {Ws : List WayE} {W : World} (h : NetS base nb mm (.slice va n vc) L Ws W) : W.cell? ⟨nb, 0, none⟩ = some (.slice va n vc) ∧ nb < W.heap.size := ⟨by rw [cell_of_row _ _ _ _ _ _ h.n]; rfl, lt_of_heap h.n⟩
theorem net_way {base nb mm : Nat} {va : Option Addr} {n vc : Nat} {L : List Plc} {Ws : List WayE} {W : World} (h : NetS base nb mm (.slice va n vc) L Ws W) {i : Nat} {x : WayE} (hx : Ws[i]? = some x) : ∃ b off, va = some ⟨b, off, none⟩ ∧ W.cell? ⟨b, off + i * 6, none⟩ = some (.string x.1.chan) ∧ W.cell? ⟨b, off + i * 6 + 1, none⟩ = some (.string x.2.1) ∧ W.cell? ⟨b, off + i * 6 + 2, none⟩ = some (.string x.2.2) ∧ W.cell? ⟨b, off + i * 6 + 3, none⟩ = some (.int .i64 x.1.cap) ∧ W.cell? ⟨b, off + i * 6 + 4, none⟩ = some (.string x.1.frm) ∧ W.cell? ⟨b, off + i * 6 + 5, none⟩ = some (.string x.1.dst) := by
  obtain ⟨o, c, e, hr⟩ := own_rows wayC_len h.own rfl
  cases e
  obtain ⟨b, off, e1, hc⟩ := rows_at hr hx
  exact ⟨b, off, e1, hc 0 _ rfl, hc 1 _ rfl, hc 2 _ rfl, hc 3 _ rfl, hc 4 _ rfl, hc 5 _ rfl⟩
theorem plc_sub {L P : List Plc} (hLM : ∀ p ∈ L, p ∈ P) (hP : ∀ p ∈ P, PlcOk p) : ∀ p ∈ L, PlcOk p := fun p hp => hP p (hLM p hp)
theorem FdS.turn {w : World} {ask : Array Value} {nb mm : Nat} {v : Value} {L : List Plc} {Ws : List WayE} {lb : Nat} {a x : Int} {pm : Nat} {R R' : List (ByteArray × En)} {W W' : World} (h : FdS w ask nb mm v L Ws lb a x pm R W) (hF : Fr (fun k => k = pm) W W') (hN : ReachAt W' pm R') : FdS w ask nb mm v L Ws lb a x pm R' W' :=
  ⟨h.o.fr h.rc.map hF h.pg h.pne, h.last.keep (keepC_at h.rc.map hF), hN, h.pg, h.pne⟩
/-- while a last way is looked at -/
structure FdL (w : World) (A : AskR) (ob : Option Addr) (bl cb : Nat) (nb mm : Nat) (v : Value) (L : List Plc) (Ws : List WayE) (lb : Nat) (a x : Int) (pm : Nat) (R : List (ByteArray × En)) (b : Nat) (y : En) (xb : Nat) (bx : Array Value) (W : World) : Prop where
  f : FdS w (askC A ob bl cb) nb mm v L Ws lb a x pm R W
  e : EndAt W b y.amt y.exp y.hops
  k : W.heap[xb]? = some (.cells bx 147 (0, 0))
theorem FdL.next {w : World} {A : AskR} {ob : Option Addr} {bl cb : Nat} {nb mm : Nat} {v : Value} {L : List Plc} {Ws : List WayE} {lb : Nat} {a x : Int} {pm : Nat} {R : List (ByteArray × En)} {b : Nat} {y : En} {xb : Nat} {bx : Array Value} {W W' : World} (h : FdL w A ob bl cb nb mm v L Ws lb a x pm R b y xb bx W) (hb : Below W.heap.size W W') : FdL w A ob bl cb nb mm v L Ws lb a x pm R b y xb bx W' :=
  ⟨h.f.next hb, h.e.below hb, (hb.block xb (lt_of_heap h.k)).trans h.k⟩
theorem FdL.turn {w : World} {A : AskR} {ob : Option Addr} {bl cb : Nat} {nb mm : Nat} {v : Value} {L : List Plc} {Ws : List WayE} {lb : Nat} {a x : Int} {pm : Nat} {R R' : List (ByteArray × En)} {b : Nat} {y : En} {xb : Nat} {bx : Array Value} {W W' : World} (h : FdL w A ob bl cb nb mm v L Ws lb a x pm R b y xb bx W) (hF : Fr (fun k => k = pm) W W') (hN : ReachAt W' pm R') : FdL w A ob bl cb nb mm v L Ws lb a x pm R' b y xb bx W' :=
  ⟨h.f.turn hF hN, h.e.keep (keepC_at h.f.rc.map hF), keepC_at h.f.rc.map hF _ _ _ _ h.k⟩
theorem end_three {W : World} {b : Nat} {a x : Int} {l : List Hp} (h : EndAt W b a x l) : W.cell? ⟨b, 0, none⟩ = some (.int .i64 a) ∧ W.cell? ⟨b, 1, none⟩ = some (.int .i64 x) ∧ W.cell? ⟨b, 2, none⟩ = some (.int .i64 (l.length : Int)) ∧ b < W.heap.size := by
  obtain ⟨c, n, p, q, v, k⟩ := end_cells h
  refine ⟨?_, ?_, ?_, lt_of_heap k⟩ <;> (rw [cell_of_row _ _ _ _ _ _ k]; rfl)
theorem FdL.cells {w : World} {A : AskR} {ob : Option Addr} {bl cb : Nat} {nb mm : Nat} {v : Value} {L : List Plc} {Ws : List WayE} {lb : Nat} {a x : Int} {pm : Nat} {R : List (ByteArray × En)} {b : Nat} {y : En} {xb : Nat} {c0 c1 c2 c3 c4 c5 : Value} {nn : Int} {W : World} (h : FdL w A ob bl cb nb mm v L Ws lb a x pm R b y xb #[c0, c1, c2, c3, c4, c5] W) (hn : (y.hops.length : Int) = nn) :
    W.cell? ⟨w.heap.size, 0, none⟩ = some (.string A.frm) ∧ W.cell? ⟨xb, 0, none⟩ = some c0 ∧ W.cell? ⟨xb, 5, none⟩ = some c5 ∧ W.cell? ⟨b, 0, none⟩ = some (.int .i64 y.amt) ∧ W.cell? ⟨b, 1, none⟩ = some (.int .i64 y.exp) ∧ W.cell? ⟨b, 2, none⟩ = some (.int .i64 nn) := by
  obtain ⟨e0, e1, e2, _⟩ := end_three h.e
  rw [hn] at e2
  refine ⟨(ask_at h.f.o.box).1, ?_, ?_, e0, e1, e2⟩ <;> (rw [cell_of_row _ _ _ _ _ _ h.k]; rfl)
theorem EndAt.keepT {W w' : World} (hk : ∀ (k : Nat) (cs : Array Value) (f : Nat × Nat), W.heap[k]? = some (Obj.cells cs 138 f) → w'.heap[k]? = some (Obj.cells cs 138 f)) : ∀ {b : Nat} {a x : Int} {l : List Hp}, EndAt W b a x l → EndAt w' b a x l
  | b, a, x, [], hh => hk _ _ _ hh
  | b, a, x, c :: t, ⟨b', h1, h2⟩ => ⟨b', hk _ _ _ h1, EndAt.keepT hk h2⟩
theorem grown_keep {W w7 : World} {tmp : Obj} {base E n m : Nat} {v : Value} {xs : List Value} (h : W.ownsRow base E n v m xs) (hg : (W.alloc tmp).grownBy w7 v.ownBlock) {k : Nat} {cs : Array Value} {t : TypeId} {f : Nat × Nat} (hk : W.heap[k]? = some (.cells cs t f)) (ht : t ≠ E) : w7.heap[k]? = some (.cells cs t f) := by
  rw [hg.block k (by simp; have := lt_of_heap hk; omega) (fun e => ?_)]
  · exact (heap_alloc_old W tmp (lt_of_heap hk)).trans hk
  · obtain ⟨_, cur, hc⟩ := own_cellsB h e.symm
    rw [hk] at hc
    cases hc; exact ht rfl
theorem grown_bel {w W w7 : World} {tmp : Obj} {E n m : Nat} {v : Value} {xs : List Value} (hb : Below w.heap.size w W) (h : W.ownsRow w.heap.size E n v m xs) (hg : (W.alloc tmp).grownBy w7 v.ownBlock) : Below w.heap.size w w7 := by
  refine ⟨hg.os.trans hb.os, hg.tape.trans hb.tape, hg.output.trans hb.output, ?_, fun k hk => ?_⟩
  · have h1 := hg.size; have h2 := hb.size; simp at h1; omega
  · have h2 := hb.size
    rw [hg.block k (by simp; omega) (fun e => by have := (own_cellsB h e.symm).1; omega), heap_alloc_old W tmp (by omega), hb.block k hk]
theorem Tryz.info49h : (Tryz.prog.info? 49).map (fun i => (i.zero, i.size, i.bytes)) = some (some (.agg #[.string ⟨#[]⟩, .string ⟨#[]⟩, .int .i64 0, .int .i64 0]), 4, 48) := by kernel_rfl
theorem reach_from {P : List Plc} {A : AskR} (hne : A.frm ≠ A.dst) (W : List Rte.Way) : ∀ n, lookR (reachN P A W n) A.frm = none
  | 0 => by simp [reachN, lookR, Ne.symm hne]
  | n + 1 => by
    cases h : lookR (reachN P A W (n + 1)) A.frm with
    | none => rfl
    | some x =>
      obtain ⟨w, _, h1, h2⟩ := reach_off P A W n A.frm x hne h
      obtain ⟨v, _, k, _⟩ := (cand_iff ..).1 h2
      exact absurd h1 k
set_option maxRecDepth 100000 in
set_option maxHeartbeats 16000000 in
theorem find_yes (oe : Option Addr) (E : List Edg) (ce : Nat) (op : Option Addr) (P : List Plc) (cp : Nat) (A : AskR) (ob : Option Addr) (cb : Nat) (w : World) (hs1 : A.frm.size ≤ maxLen) (hs2 : A.dst.size ≤ maxLen) (hL : LibOk w)
    (hE : RowsAt 4 edgC oe E w) (hP : RowsAt 9 plcC op P w) (hB : StrsAt ob A.bad w) (h0 : refusedN isKey E P A = 0) : Calls Tryz.prog 20 #[.slice oe E.length ce, .slice op P.length cp, askV A ob cb] w (FindPost (findN isKey E P A) w) := by
  have hf : findN isKey E P A = outF (findB P A (waysGo A.bad E)) := by unfold findN; rw [if_neg (by rw [h0]; decide)]
  rw [hf]
  have HN := Lib.hid (fun W (h : Below w.heap.size w W) => net_any oe E ce op P cp A ob cb W hs1 hs2 (hL.below h) (hE.below h) (hP.below h) (by
    rcases hB with k | ⟨b, off, k1, k2⟩
    · exact .inl k
    · exact .inr ⟨b, off, k1, fun i s hi => cell_later' h (k2 i s hi)⟩))
  have HFi := Lib.hid (fine_of h0)
  obtain ⟨ways, hways⟩ : ∃ ws, waysGo A.bad E = ws := ⟨_, rfl⟩
  rw [hways]
  have HCAP : Hid (∀ x ∈ ways, 0 ≤ x.cap ∧ x.cap ≤ 2100000000000000) := by rw [← hways]; exact ways_cap (Q := fun c => 0 ≤ c ∧ c ≤ 2100000000000000) E _ (fine_of h0).edg
  have HDIF : Hid (∀ x ∈ ways, x.frm ≠ x.dst) := by rw [← hways]; exact fun x hx => (ways_mem _ _ x hx).1
  have HLEN : Hid (ways.length ≤ 512) := by rw [← hways]; have := ways_len E A.bad; have := (fine_of h0).el; show _ ≤ _; omega
  obtain ⟨out, hout⟩ : ∃ o, findB P A ways = o := ⟨_, rfl⟩
  rw [hout]
  have HOUT := Lib.hid hout
  have HPOS : Hid (∀ x, out = some x → 0 < x.hops.length ∧ x.hops.length ≤ 20) := fun x hx => by
    obtain ⟨⟨h, r, e, _, _, _, _, _, _, _, _, _, hr⟩, _⟩ := find_is (hout.trans hx)
    rw [e]; simp only [List.length_cons]; omega
  have HWY := Lib.hid hways
  have H0 := Lib.hid h0
  clear h0 hf hL hE hP hB hs1 hs2 hout hways
  have hmm := @run_makeMap Tryz.prog
  unfold askV at HN ⊢
  obtain ⟨bl, hbl⟩ : ∃ n, A.bad.length = n := ⟨_, rfl⟩
  rw [hbl] at HN ⊢
  clear hbl
  go_enter Tryz.func20, Tryz.ntmps20
  go_wp2_with ((go_at_call 77; (with_reducible refine Calls.mono (HN.out _ (below_new' _ _)) ?_); rintro e w1 ⟨hb1, -, hyes⟩; obtain ⟨nb, rfl, mm, v, L, Ws, hnet, hLP, hLm, hW⟩ := hyes H0.out; have HS : Hid (OfS w (askC A ob bl cb) nb mm v L Ws w1) := OfS.of_net hb1 hnet; have HLP := Lib.hid hLP; have HLM := Lib.hid hLm; have HW := Lib.hid hW; obtain ⟨a0, a1, a2, a3, a4, a5, hl0⟩ := ask_at HS.out.box; have hins := run_insOne A.dst w1.heap.size (w1.heap.size + 1) ((w1.alloc (.cells #[.int .i64 A.amt, .int .i64 A.exp, .int .i64 0, .string ⟨#[]⟩, .string ⟨#[]⟩, .int .i64 0, .int .i64 0, .pointer none] 138)).alloc (.map #[] 0)) (by have := heap_alloc_at (w1.alloc (.cells #[.int .i64 A.amt, .int .i64 A.exp, .int .i64 0, .string ⟨#[]⟩, .string ⟨#[]⟩, .int .i64 0, .int .i64 0, .pointer none] 138)) (.map #[] 0); simpa using this); clear hb1 hyes hnet hLP hLm hW))
  clear hins hl0 a0 a1 a2 a3 a4 a5 HN H0
  rw [HWY.out] at HW
  obtain ⟨va, vc, rfl⟩ := own_slice HS.out.net.own
  have hF0 : (FdS w (askC A ob bl cb) nb mm (.slice va Ws.length vc) L Ws w1.heap.size A.amt A.exp (w1.heap.size + 1) [(A.dst, startE A)] (putO ((w1.alloc (.cells #[.int .i64 A.amt, .int .i64 A.exp, .int .i64 0, .string ⟨#[]⟩, .string ⟨#[]⟩, .int .i64 0, .int .i64 0, .pointer none] 138)).alloc (.map #[] 0)) (w1.heap.size + 1) (oneMap A.dst w1.heap.size))) := by
    have := FdS.first (A := A) (HS.out.next (below_new' w1 (.cells #[.int .i64 A.amt, .int .i64 A.exp, .int .i64 0, .string ⟨#[]⟩, .string ⟨#[]⟩, .int .i64 0, .int .i64 0, .pointer none] 138))) (heap_alloc_at w1 _)
    simpa using this
  have HF0 := Lib.hid hF0
  clear hF0
  generalize (putO ((w1.alloc (.cells #[.int .i64 A.amt, .int .i64 A.exp, .int .i64 0, .string ⟨#[]⟩, .string ⟨#[]⟩, .int .i64 0, .int .i64 0, .pointer none] 138)).alloc (.map #[] 0)) (w1.heap.size + 1) (oneMap A.dst w1.heap.size)) = w2 at HF0 ⊢
  have HWL : Hid (Ws.length ≤ 512) := by have h1 := HLEN.out; rw [← HW.out, List.length_map] at h1; exact h1
  clear HS
  generalize w1.heap.size + 1 = pm0 at HF0 ⊢
  generalize w1.heap.size = lb at HF0 ⊢
  clear w1
  go_loopw [43, 11] (fun iv rv wr => ∃ (n pm : Nat), n ≤ 19 ∧ iv = .int .i64 n ∧ rv = .map (some pm) ∧ Hid (FdS w (askC A ob bl cb) nb mm (.slice va Ws.length vc) L Ws lb A.amt A.exp pm (reachN P A ways n) wr)) (fun iv _ _ => 19 - (intOf iv).toNat)
  case atStart => exact ⟨0, pm0, by omega, rfl, rfl, HF0.out⟩
  case round =>
    obtain ⟨n, pm, hn, rfl, rfl, hF⟩ := hrel
    clear HF0
    by_cases hlt : n < 19
    · have hn1 : (n : Int) < 19 := by omega
      obtain ⟨a0, a1, a2, a3, a4, a5, hl0⟩ := ask_at hF.out.o.box
      have hins := run_insOne A.dst lb wr.heap.size (wr.alloc (.map #[] 0)) (heap_alloc_at _ _)
      have HX := Lib.hid (FdX.new hF.out)
      obtain ⟨n0, hl1⟩ := net_row HX.out.f.o.net
      clear hF
      go_wp2_with fail
      clear hins hl0 hl1 n0 a0 a1 a2 a3 a4 a5
      generalize putO (wr.alloc (.map #[] 0)) wr.heap.size (oneMap A.dst lb) = w3 at HX ⊢
      generalize wr.heap.size = nm at HX ⊢
      go_loopw [55] (fun iv wr => ∃ (i : Nat), i ≤ Ws.length ∧ iv = .int .i64 i ∧ Hid (FdX w (askC A ob bl cb) nb mm (.slice va Ws.length vc) L Ws lb A.amt A.exp pm (reachN P A ways n) nm ((ways.take i).foldl (stepW P A (reachN P A ways n)) [(A.dst, startE A)]) wr)) (fun iv _ => Ws.length - (intOf iv).toNat)
      case atStart => exact ⟨0, Nat.zero_le _, rfl, HX.out⟩
      case round =>
        clear HX
        obtain ⟨i, hi, rfl, hX⟩ := hrel
        by_cases hlt2 : i < Ws.length
        · obtain ⟨x, hx⟩ : ∃ x, Ws[i]? = some x := ⟨_, List.getElem?_eq_getElem hlt2⟩
          have hxw := ways_at HW.out hx
          obtain ⟨⟨ch, cp, fr, dt⟩, ea, eb⟩ := x
          dsimp only at hxw
          obtain ⟨cap0, cap1⟩ := HCAP.out _ (List.mem_of_getElem? hxw)
          have hst := fold_take (stepW P A (reachN P A ways n)) [(A.dst, startE A)] hxw
          have HST := Lib.hid hst
          clear hst
          obtain ⟨qb, qo, rfl, z0, z1, z2, z3, z4, z5⟩ := net_way hX.out.f.o.net hx
          have hii : (i : Int) < (Ws.length : Int) := by omega
          have hii2 : (Ws.length : Int) ≤ 512 := by have := HWL.out; omega
          dsimp only at z0 z1 z2 z3 z4 z5 cap0 cap1
          obtain ⟨pv, hlk, hpv⟩ := hX.out.f.rc.look dt
          obtain ⟨ees, ec, hpm⟩ := hX.out.f.rc.map
          have hb5 : Below wr.heap.size wr (wr.alloc (.cells #[.string ch, .string ea, .string eb, .int .i64 cp, .string fr, .string dt] 147)) := below_new' wr _
          have hlk5 := hlk (wr.alloc (.cells #[.string ch, .string ea, .string eb, .int .i64 cp, .string fr, .string dt] 147)) (hb5.block pm (lt_of_heap hpm))
          have HX5 := Lib.hid (hX.out.next hb5)
          have HK5 : Hid ((wr.alloc (.cells #[.string ch, .string ea, .string eb, .int .i64 cp, .string fr, .string dt] 147)).heap[wr.heap.size]? = some (.cells #[.string ch, .string ea, .string eb, .int .i64 cp, .string fr, .string dt] 147 (0, 0))) := heap_alloc_at _ _
          have HB5 := Lib.hid hb5
          have HGD : Hid (GoodR n (reachN P A ways n)) := good_reach HFi.out.plc HFi.out.ask ways n (by omega)
          clear hlk hpm hb5 hx hxw hi hn
          cases hv : lookR (reachN P A ways n) dt with
          | none =>
            rw [hv] at hpv
            dsimp only at hpv
            subst hpv
            have HSAME : Hid ((ways.take (i + 1)).foldl (stepW P A (reachN P A ways n)) [(A.dst, startE A)] = (ways.take i).foldl (stepW P A (reachN P A ways n)) [(A.dst, startE A)]) := by
              show _ = _
              rw [HST.out]; unfold stepW candW; dsimp only; rw [hv]
            clear hv
            go_wp2_with fail
            go_quiet (fail)
            go_wp2_with fail
            go_roundw
            case rel => exact ⟨i + 1, hlt2, by rw [Int.natCast_succ], by show FdX _ _ _ _ _ _ _ _ _ _ _ _ _ _ _; rw [HSAME.out]; exact HX5.out.next (bdN (Below.refl _ _) _)⟩
            case measure => simp only [intOf]; omega
          | some y =>
            rw [hv] at hpv
            obtain ⟨b, rfl, hE⟩ := hpv
            have hE5 := hE.below HB5.out
            obtain ⟨y0, y1⟩ := HGD.out _ _ hv
            have HYK := Lib.hid y0
            have HYL := Lib.hid y1
            have HCD : Hid (candW P A (reachN P A ways n) ⟨ch, cp, fr, dt⟩ = if fr = A.frm ∨ fr = A.dst ∨ cp * 1000 < y.amt then none else beforeW P ⟨ch, cp, fr, dt⟩ y) := by
              show _ = _
              unfold candW; dsimp only; rw [hv]
            have HE5 := Lib.hid hE5
            clear hE hE5 y0 y1 hv hX
            go_wp2_with fail
            clear hlk5 z0 z1 z2 z3 z4 z5
            generalize (wr.alloc (.cells #[.string ch, .string ea, .string eb, .int .i64 cp, .string fr, .string dt] 147)) = w5 at HX5 HK5 HB5 HE5 ⊢
            generalize wr.heap.size = xb at HK5 HB5 ⊢
            have HB : Hid (FdB w (askC A ob bl cb) nb mm (.slice (some ⟨qb, qo, none⟩) Ws.length vc) L Ws lb A.amt A.exp pm (reachN P A ways n) nm ((ways.take i).foldl (stepW P A (reachN P A ways n)) [(A.dst, startE A)]) b y xb #[.string ch, .string ea, .string eb, .int .i64 cp, .string fr, .string dt] w5) := ⟨HX5.out, HE5.out, HK5.out⟩
            obtain ⟨x0, x1, x2, x3, x4, x5⟩ := HB.out.cells
            obtain ⟨a0, a1, a2, a3, a4, a5, hl0⟩ := ask_at HX5.out.f.o.box
            obtain ⟨ec0, en, ep, eq, ev, ke⟩ := end_cells HE5.out
            have y0 : w5.cell? ⟨b, 0, none⟩ = some (.int .i64 y.amt) := by rw [cell_of_row _ _ _ _ _ _ ke]; rfl
            clear ke HX5 HE5 HK5 HB5
            have hmul : wrap64 (cp * 1000) = cp * 1000 := by unfold wrap64; omega
            obtain ⟨af, haf⟩ : ∃ q, A.frm = q := ⟨_, rfl⟩
            obtain ⟨ad, had⟩ : ∃ q, A.dst = q := ⟨_, rfl⟩
            have HAF := Lib.hid haf
            have HAD := Lib.hid had
            rw [haf] at a0
            rw [had] at a1
            clear haf had
            by_cases hbad : fr = af ∨ fr = ad ∨ cp * 1000 < y.amt
            · have HSAME : Hid ((ways.take (i + 1)).foldl (stepW P A (reachN P A ways n)) [(A.dst, startE A)] = (ways.take i).foldl (stepW P A (reachN P A ways n)) [(A.dst, startE A)]) := by
                show _ = _
                rw [HST.out]; unfold stepW; rw [HCD.out, if_pos (by rw [HAF.out, HAD.out]; exact hbad)]
              by_cases g1 : fr = af
              · subst g1
                clear hbad
                go_quiet (fail)
                go_wp2_with fail
                go_roundw
                case rel => exact ⟨i + 1, hlt2, by rw [Int.natCast_succ], by show FdX _ _ _ _ _ _ _ _ _ _ _ _ _ _ _; rw [HSAME.out]; exact HB.out.x.next (bdN (Below.refl _ _) _)⟩
                case measure => simp only [intOf]; omega
              · have q1 := toList_ne g1
                by_cases g2 : fr = ad
                · subst g2
                  clear hbad g1
                  go_quiet (fail)
                  go_wp2_with fail
                  go_roundw
                  case rel => exact ⟨i + 1, hlt2, by rw [Int.natCast_succ], by show FdX _ _ _ _ _ _ _ _ _ _ _ _ _ _ _; rw [HSAME.out]; exact HB.out.x.next (bdN (Below.refl _ _) _)⟩
                  case measure => simp only [intOf]; omega
                · have q2 := toList_ne g2
                  have d3 : decide (cp * 1000 < y.amt) = true := decide_eq_true (by rcases hbad with h | h | h; exact absurd h g1; exact absurd h g2; exact h)
                  clear hbad g1 g2
                  go_quiet (fail)
                  go_wp2_with fail
                  go_roundw
                  case rel => exact ⟨i + 1, hlt2, by rw [Int.natCast_succ], by show FdX _ _ _ _ _ _ _ _ _ _ _ _ _ _ _; rw [HSAME.out]; exact HB.out.x.next (bdN (Below.refl _ _) _)⟩
                  case measure => simp only [intOf]; omega
            · have q1 := toList_ne (fun h => hbad (.inl h) : fr ≠ af)
              have q2 := toList_ne (fun h => hbad (.inr (.inl h)) : fr ≠ ad)
              have d3 : decide (cp * 1000 < y.amt) = false := decide_eq_false (fun h => hbad (.inr (.inr h)))
              rw [if_neg (by rw [HAF.out, HAD.out]; exact hbad)] at HCD
              clear hbad
              go_quiet (fail)
              generalize hq : w5.drewN _ = w6
              have HB6 : Hid (FdB w (askC A ob bl cb) nb mm (.slice (some ⟨qb, qo, none⟩) Ws.length vc) L Ws lb A.amt A.exp pm (reachN P A ways n) nm ((ways.take i).foldl (stepW P A (reachN P A ways n)) [(A.dst, startE A)]) b y xb #[.string ch, .string ea, .string eb, .int .i64 cp, .string fr, .string dt] w6) := by rw [← hq]; exact HB.out.next (bdN (Below.refl _ _) _)
              clear hq HB x0 x1 x2 x3 x4 x5 a0 a1 a2 a3 a4 a5 hl0 y0 q1 q2 d3 hmul
              go_wp2_with fail
              have Z0 : FdB w (askC A ob bl cb) nb mm (.slice (some ⟨qb, qo, none⟩) Ws.length vc) L Ws lb A.amt A.exp pm (reachN P A ways n) nm ((ways.take i).foldl (stepW P A (reachN P A ways n)) [(A.dst, startE A)]) b y xb #[.string ch, .string ea, .string eb, .int .i64 cp, .string fr, .string dt] w6.drew := HB6.out.next (Below.refl _ _).drew
              obtain ⟨x0, x1, x2, x3, x4, x5⟩ := Z0.cells
              have HCB : Hid (∀ W, FdB w (askC A ob bl cb) nb mm (.slice (some ⟨qb, qo, none⟩) Ws.length vc) L Ws lb A.amt A.exp pm (reachN P A ways n) nm ((ways.take i).foldl (stepW P A (reachN P A ways n)) [(A.dst, startE A)]) b y xb #[.string ch, .string ea, .string eb, .int .i64 cp, .string fr, .string dt] W → Calls Tryz.prog 80 #[.pointer (some ⟨nb, 0, none⟩), .agg #[.string ch, .string ea, .string eb, .int .i64 cp, .string fr, .string dt], .pointer (some ⟨b, 0, none⟩)] W (BefPost (beforeW P ⟨ch, cp, fr, dt⟩ y) W)) := fun W h => by
                have := before_any nb mm b (.slice (some ⟨qb, qo, none⟩) Ws.length vc) L ⟨ch, cp, fr, dt⟩ ea eb y W h.x.f.o.net.n h.x.f.o.net.m h.e HYK.out (plc_sub HLM.out HFi.out.plc)
                rw [bef_congr HLP.out] at this
                exact this
              cases hbf : beforeW P ⟨ch, cp, fr, dt⟩ y with
              | none =>
                have HSAME : Hid ((ways.take (i + 1)).foldl (stepW P A (reachN P A ways n)) [(A.dst, startE A)] = (ways.take i).foldl (stepW P A (reachN P A ways n)) [(A.dst, startE A)]) := by
                  show _ = _
                  rw [HST.out]; unfold stepW; rw [HCD.out, hbf]
                have HC1 : Hid (∀ W, FdB w (askC A ob bl cb) nb mm (.slice (some ⟨qb, qo, none⟩) Ws.length vc) L Ws lb A.amt A.exp pm (reachN P A ways n) nm ((ways.take i).foldl (stepW P A (reachN P A ways n)) [(A.dst, startE A)]) b y xb #[.string ch, .string ea, .string eb, .int .i64 cp, .string fr, .string dt] W → Calls Tryz.prog 80 #[.pointer (some ⟨nb, 0, none⟩), .agg #[.string ch, .string ea, .string eb, .int .i64 cp, .string fr, .string dt], .pointer (some ⟨b, 0, none⟩)] W fun e w' => e = .returned (.pointer none) ∧ FdB w (askC A ob bl cb) nb mm (.slice (some ⟨qb, qo, none⟩) Ws.length vc) L Ws lb A.amt A.exp pm (reachN P A ways n) nm ((ways.take i).foldl (stepW P A (reachN P A ways n)) [(A.dst, startE A)]) b y xb #[.string ch, .string ea, .string eb, .int .i64 cp, .string fr, .string dt] w') := fun W h => (HCB.out W h).mono fun e w' k => by
                  rw [hbf] at k
                  exact ⟨k.2, h.next k.1⟩
                have HC2 : Hid (∀ W, FdB w (askC A ob bl cb) nb mm (.slice (some ⟨qb, qo, none⟩) Ws.length vc) L Ws lb A.amt A.exp pm (reachN P A ways n) nm ((ways.take i).foldl (stepW P A (reachN P A ways n)) [(A.dst, startE A)]) b y xb #[.string ch, .string ea, .string eb, .int .i64 cp, .string fr, .string dt] W → Calls Tryz.prog 78 #[.map (some nm), .string fr, .pointer none] W fun e w' => e = .returned (.tuple #[]) ∧ FdB w (askC A ob bl cb) nb mm (.slice (some ⟨qb, qo, none⟩) Ws.length vc) L Ws lb A.amt A.exp pm (reachN P A ways n) nm ((ways.take i).foldl (stepW P A (reachN P A ways n)) [(A.dst, startE A)]) b y xb #[.string ch, .string ea, .string eb, .int .i64 cp, .string fr, .string dt] w') := fun W h => (best_any nm _ fr none W h.x.nx trivial).mono fun e w' k => ⟨k.1, h.turn k.2.1 k.2.2⟩
                clear hbf HCB HCD HST
                go_region_held3 (fun w' => w'.cell? ⟨xb, 0, none⟩ = some (.string ch) ∧ w'.cell? ⟨xb, 1, none⟩ = some (.string ea) ∧ w'.cell? ⟨xb, 2, none⟩ = some (.string eb) ∧ w'.cell? ⟨xb, 3, none⟩ = some (.int .i64 cp) ∧ w'.cell? ⟨xb, 4, none⟩ = some (.string fr) ∧ w'.cell? ⟨xb, 5, none⟩ = some (.string dt))
                  (first | exact FdB.cells (by assumption) | go_keep)
                  ((first | (go_at_call 80; (with_reducible refine Calls.mono (HC1.out _ (by assumption)) ?_); rintro e7 w7 ⟨rfl, Z7⟩) | (go_at_call 78; (with_reducible refine Calls.mono (HC2.out _ (by assumption)) ?_); rintro e8 w8 ⟨rfl, Z8⟩)))
                go_wp2_with fail
                go_roundw
                case rel => exact ⟨i + 1, hlt2, by rw [Int.natCast_succ], by show FdX _ _ _ _ _ _ _ _ _ _ _ _ _ _ _; rw [HSAME.out]; exact Z8.x⟩
                case measure => simp only [intOf]; omega
              | some z =>
                have HSTEP : Hid ((ways.take (i + 1)).foldl (stepW P A (reachN P A ways n)) [(A.dst, startE A)] = putR ((ways.take i).foldl (stepW P A (reachN P A ways n)) [(A.dst, startE A)]) fr z) := by
                  show _ = _
                  rw [HST.out]; unfold stepW; rw [HCD.out, hbf]
                have HC1 : Hid (∀ W, FdB w (askC A ob bl cb) nb mm (.slice (some ⟨qb, qo, none⟩) Ws.length vc) L Ws lb A.amt A.exp pm (reachN P A ways n) nm ((ways.take i).foldl (stepW P A (reachN P A ways n)) [(A.dst, startE A)]) b y xb #[.string ch, .string ea, .string eb, .int .i64 cp, .string fr, .string dt] W → Calls Tryz.prog 80 #[.pointer (some ⟨nb, 0, none⟩), .agg #[.string ch, .string ea, .string eb, .int .i64 cp, .string fr, .string dt], .pointer (some ⟨b, 0, none⟩)] W fun e w' => ∃ zb, e = .returned (.pointer (some ⟨zb, 0, none⟩)) ∧ FdB w (askC A ob bl cb) nb mm (.slice (some ⟨qb, qo, none⟩) Ws.length vc) L Ws lb A.amt A.exp pm (reachN P A ways n) nm ((ways.take i).foldl (stepW P A (reachN P A ways n)) [(A.dst, startE A)]) b y xb #[.string ch, .string ea, .string eb, .int .i64 cp, .string fr, .string dt] w' ∧ EndAt w' zb z.amt z.exp z.hops) := fun W h => (HCB.out W h).mono fun e w' k => by
                  rw [hbf] at k
                  obtain ⟨zb, k1, k2⟩ := k.2
                  exact ⟨zb, k1, h.next k.1, k2⟩
                have HC2 : Hid (∀ W zb, FdB w (askC A ob bl cb) nb mm (.slice (some ⟨qb, qo, none⟩) Ws.length vc) L Ws lb A.amt A.exp pm (reachN P A ways n) nm ((ways.take i).foldl (stepW P A (reachN P A ways n)) [(A.dst, startE A)]) b y xb #[.string ch, .string ea, .string eb, .int .i64 cp, .string fr, .string dt] W → EndAt W zb z.amt z.exp z.hops → Calls Tryz.prog 78 #[.map (some nm), .string fr, .pointer (some ⟨zb, 0, none⟩)] W fun e w' => e = .returned (.tuple #[]) ∧ FdB w (askC A ob bl cb) nb mm (.slice (some ⟨qb, qo, none⟩) Ws.length vc) L Ws lb A.amt A.exp pm (reachN P A ways n) nm (putR ((ways.take i).foldl (stepW P A (reachN P A ways n)) [(A.dst, startE A)]) fr z) b y xb #[.string ch, .string ea, .string eb, .int .i64 cp, .string fr, .string dt] w') := fun W zb h hz => (best_any nm _ fr (some (zb, z)) W h.x.nx hz).mono fun e w' k => ⟨k.1, h.turn k.2.1 k.2.2⟩
                clear hbf HCB HCD HST
                go_region_held3 (fun w' => w'.cell? ⟨xb, 0, none⟩ = some (.string ch) ∧ w'.cell? ⟨xb, 1, none⟩ = some (.string ea) ∧ w'.cell? ⟨xb, 2, none⟩ = some (.string eb) ∧ w'.cell? ⟨xb, 3, none⟩ = some (.int .i64 cp) ∧ w'.cell? ⟨xb, 4, none⟩ = some (.string fr) ∧ w'.cell? ⟨xb, 5, none⟩ = some (.string dt))
                  (first | exact FdB.cells (by assumption) | go_keep)
                  ((first | (go_at_call 80; (with_reducible refine Calls.mono (HC1.out _ (by assumption)) ?_); rintro e7 w7 ⟨zb, rfl, Z7, E7⟩) | (go_at_call 78; (with_reducible refine Calls.mono (HC2.out _ _ (by assumption) (by assumption)) ?_); rintro e8 w8 ⟨rfl, Z8⟩)))
                go_wp2_with fail
                go_roundw
                case rel => exact ⟨i + 1, hlt2, by rw [Int.natCast_succ], by show FdX _ _ _ _ _ _ _ _ _ _ _ _ _ _ _; rw [HSTEP.out]; exact Z8.x⟩
                case measure => simp only [intOf]; omega
        · obtain rfl : i = Ws.length := by omega
          have HNX : Hid (FdS w (askC A ob bl cb) nb mm (.slice va Ws.length vc) L Ws lb A.amt A.exp nm (reachN P A ways (n + 1)) wr) := by
            have h1 := hX.out.out
            have h2 : ways.take Ws.length = ways := by rw [← HW.out, List.take_of_length_le]; simp
            rw [h2] at h1
            exact h1
          clear hX hi hlt2
          go_wp2_with fail
          go_roundw
          case rel => exact ⟨n + 1, nm, by omega, by rw [Int.natCast_succ], rfl, HNX.out⟩
          case measure => simp only [intOf]; omega
    · obtain rfl : n = 19 := by omega
      rw [show ((19 : Nat) : Int) = 19 from rfl]
      have HNO : Hid (lookR (reachN P A ways 19) A.frm = none) := reach_from HFi.out.ask.ne ways 19
      have HGD : Hid (GoodR 19 (reachN P A ways 19)) := good_reach HFi.out.plc HFi.out.ask ways 19 (by omega)
      have hFB : ways.foldl (lastW A (reachN P A ways 19)) none = out := HOUT.out
      have HFB := Lib.hid hFB
      generalize reachN P A ways 19 = R0 at hF HNO HGD HFB
      obtain ⟨n0, hl1⟩ := net_row hF.out.o.net
      clear hlt hn hFB HOUT hmm
      go_wp2_with fail
      clear n0 hl1
      go_loopw [107] (fun iv wr => ∃ (i : Nat) (R : List (ByteArray × En)), i ≤ Ws.length ∧ iv = .int .i64 i ∧ Hid (FdS w (askC A ob bl cb) nb mm (.slice va Ws.length vc) L Ws lb A.amt A.exp pm R wr) ∧ Hid (∀ t, t ≠ A.frm → lookR R t = lookR R0 t) ∧ Hid (lookR R A.frm = (ways.take i).foldl (lastW A R0) none)) (fun iv _ => Ws.length - (intOf iv).toNat)
      case atStart => exact ⟨0, _, Nat.zero_le _, rfl, hF.out, fun _ _ => rfl, HNO.out⟩
      case round =>
        clear hF HNO
        obtain ⟨i, R, hi, rfl, hF, hRO, hRF⟩ := hrel
        by_cases hlt2 : i < Ws.length
        · obtain ⟨x, hx⟩ : ∃ x, Ws[i]? = some x := ⟨_, List.getElem?_eq_getElem hlt2⟩
          have hxw := ways_at HW.out hx
          obtain ⟨⟨ch, cp, fr, dt⟩, ea, eb⟩ := x
          dsimp only at hxw
          obtain ⟨cap0, cap1⟩ := HCAP.out _ (List.mem_of_getElem? hxw)
          have hdif := HDIF.out _ (List.mem_of_getElem? hxw)
          have hst := fold_take (lastW A R0) none hxw
          have HST := Lib.hid hst
          clear hst
          obtain ⟨qb, qo, rfl, z0, z1, z2, z3, z4, z5⟩ := net_way hF.out.o.net hx
          have hii : (i : Int) < (Ws.length : Int) := by omega
          have hii2 : (Ws.length : Int) ≤ 512 := by have := HWL.out; omega
          dsimp only at z0 z1 z2 z3 z4 z5 cap0 cap1 hdif
          obtain ⟨pv, hlk, hpv⟩ := hF.out.rc.look dt
          obtain ⟨ees, ec, hpm⟩ := hF.out.rc.map
          have hb5 : Below wr.heap.size wr (wr.alloc (.cells #[.string ch, .string ea, .string eb, .int .i64 cp, .string fr, .string dt] 147)) := below_new' wr _
          have hlk5 := hlk (wr.alloc (.cells #[.string ch, .string ea, .string eb, .int .i64 cp, .string fr, .string dt] 147)) (hb5.block pm (lt_of_heap hpm))
          have HX5 := Lib.hid (hF.out.next hb5)
          have HK5 : Hid ((wr.alloc (.cells #[.string ch, .string ea, .string eb, .int .i64 cp, .string fr, .string dt] 147)).heap[wr.heap.size]? = some (.cells #[.string ch, .string ea, .string eb, .int .i64 cp, .string fr, .string dt] 147 (0, 0))) := heap_alloc_at _ _
          have HB5 := Lib.hid hb5
          clear hlk hpm hb5 hx hxw hi
          by_cases hfr : fr = A.frm
          · have hdt : dt ≠ A.frm := fun h => hdif (hfr.trans h.symm)
            have hro := hRO.out dt hdt
            cases hv : lookR R dt with
            | none =>
              rw [hv] at hpv
              dsimp only at hpv
              subst hpv
              have HSAME : Hid ((ways.take (i + 1)).foldl (lastW A R0) none = (ways.take i).foldl (lastW A R0) none) := by
                show _ = _
                rw [HST.out]; unfold lastW candL; dsimp only; rw [← hro, hv]
              clear hv hro hdt hfr hdif
              go_wp2_with fail
              go_quiet (fail)
              go_wp2_with fail
              go_roundw
              case rel => exact ⟨i + 1, R, hlt2, by rw [Int.natCast_succ], HX5.out.next (bdN (Below.refl _ _) _), hRO.out, by show _ = _; rw [HSAME.out]; exact hRF.out⟩
              case measure => simp only [intOf]; omega
            | some y =>
              rw [hv] at hpv
              obtain ⟨b, rfl, hE⟩ := hpv
              obtain ⟨y0, y1⟩ := HGD.out dt y (hro.symm.trans hv)
              have HE5 := Lib.hid (hE.below HB5.out)
              have HCD : Hid (candL A R0 ⟨ch, cp, fr, dt⟩ = if cp * 1000 < y.amt ∨ A.fee < y.amt - A.amt ∨ A.latest < y.exp then none else some ⟨y.amt, y.exp, ⟨ch, dt, y.amt, y.exp⟩ :: y.hops⟩) := by
                show _ = _
                unfold candL; dsimp only; rw [← hro, hv]
                dsimp only
                by_cases hc : cp * 1000 < y.amt ∨ A.fee < y.amt - A.amt ∨ A.latest < y.exp
                · rw [if_pos (.inr hc), if_pos hc]
                · rw [if_neg (by rintro (k | k); exact k hfr; exact hc k), if_neg hc]
              have q1 : fr.toList = A.frm.toList := by rw [hfr]
              have HFR := Lib.hid hfr
              obtain ⟨yA0, yA1⟩ := HFi.out.ask
              have hsub : wrap64 (y.amt - A.amt) = y.amt - A.amt := by have := y0.a0; have := y0.a1; unfold wrap64; omega
              have hmul : wrap64 (cp * 1000) = cp * 1000 := by unfold wrap64; omega
              obtain ⟨nn, hnn⟩ : ∃ n : Int, (y.hops.length : Int) = n := ⟨_, rfl⟩
              have hcn : IntKind.i64.wrap (nn + 1) = nn + 1 := by
                have := y0.few
                rw [Go.IntWalk.i64_left]; unfold wrap64; omega
              have HCN := Lib.hid hcn
              have HNN := Lib.hid hnn
              clear hE hv hro hdt hdif y0 y1 yA0 yA1 hfr hF hcn
              go_wp2_with fail
              clear hlk5 z0 z1 z2 z3 z4 z5
              generalize (wr.alloc (.cells #[.string ch, .string ea, .string eb, .int .i64 cp, .string fr, .string dt] 147)) = w5 at HX5 HK5 HB5 HE5 ⊢
              generalize wr.heap.size = xb at HK5 HB5 ⊢
              have HB : Hid (FdL w A ob bl cb nb mm (.slice (some ⟨qb, qo, none⟩) Ws.length vc) L Ws lb A.amt A.exp pm R b y xb #[.string ch, .string ea, .string eb, .int .i64 cp, .string fr, .string dt] w5) := ⟨HX5.out, HE5.out, HK5.out⟩
              have x3 : w5.cell? ⟨xb, 3, none⟩ = some (.int .i64 cp) := by rw [cell_of_row _ _ _ _ _ _ HK5.out]; rfl
              have x4 : w5.cell? ⟨xb, 4, none⟩ = some (.string fr) := by rw [cell_of_row _ _ _ _ _ _ HK5.out]; rfl
              obtain ⟨a0, a1, a2, a3, a4, a5, hl0⟩ := ask_at HX5.out.o.box
              obtain ⟨y0, y1, y2, yl⟩ := end_three HE5.out
              clear HX5 HE5 HK5 HB5 hnn y2
              obtain ⟨afee, hafee⟩ : ∃ q, A.fee = q := ⟨_, rfl⟩
              obtain ⟨alat, halat⟩ : ∃ q, A.latest = q := ⟨_, rfl⟩
              have HA1 := Lib.hid hafee
              have HA2 := Lib.hid halat
              rw [hafee] at a5
              rw [halat] at a4
              clear hafee halat
              by_cases hbad : cp * 1000 < y.amt ∨ afee < y.amt - A.amt ∨ alat < y.exp
              · have HSAME : Hid ((ways.take (i + 1)).foldl (lastW A R0) none = (ways.take i).foldl (lastW A R0) none) := by
                  show _ = _
                  rw [HST.out]; unfold lastW; rw [HCD.out, if_pos (by rw [HA1.out, HA2.out]; exact hbad)]
                by_cases g1 : cp * 1000 < y.amt
                · have d1 : decide (cp * 1000 < y.amt) = true := decide_eq_true g1
                  clear hbad g1
                  go_quiet (fail)
                  go_wp2_with fail
                  go_roundw
                  case rel => exact ⟨i + 1, R, hlt2, by rw [Int.natCast_succ], HB.out.f.next (bdN (Below.refl _ _) _), hRO.out, by show _ = _; rw [HSAME.out]; exact hRF.out⟩
                  case measure => simp only [intOf]; omega
                · have d1 : decide (cp * 1000 < y.amt) = false := decide_eq_false g1
                  by_cases g2 : afee < y.amt - A.amt
                  · have d2 : decide (afee < y.amt - A.amt) = true := decide_eq_true g2
                    clear hbad g1 g2
                    go_quiet (fail)
                    go_wp2_with fail
                    go_roundw
                    case rel => exact ⟨i + 1, R, hlt2, by rw [Int.natCast_succ], HB.out.f.next (bdN (Below.refl _ _) _), hRO.out, by show _ = _; rw [HSAME.out]; exact hRF.out⟩
                    case measure => simp only [intOf]; omega
                  · have d2 : decide (afee < y.amt - A.amt) = false := decide_eq_false g2
                    have d3 : decide (alat < y.exp) = true := decide_eq_true (by rcases hbad with h | h | h; exact absurd h g1; exact absurd h g2; exact h)
                    clear hbad g1 g2
                    go_quiet (fail)
                    go_wp2_with fail
                    go_roundw
                    case rel => exact ⟨i + 1, R, hlt2, by rw [Int.natCast_succ], HB.out.f.next (bdN (Below.refl _ _) _), hRO.out, by show _ = _; rw [HSAME.out]; exact hRF.out⟩
                    case measure => simp only [intOf]; omega
              · have d1 : decide (cp * 1000 < y.amt) = false := decide_eq_false (fun h => hbad (.inl h))
                have d2 : decide (afee < y.amt - A.amt) = false := decide_eq_false (fun h => hbad (.inr (.inl h)))
                have d3 : decide (alat < y.exp) = false := decide_eq_false (fun h => hbad (.inr (.inr h)))
                rw [if_neg (by rw [HA1.out, HA2.out]; exact hbad)] at HCD
                have HSTEP : Hid ((ways.take (i + 1)).foldl (lastW A R0) none = some (bestE (lookR R A.frm) ⟨y.amt, y.exp, ⟨ch, dt, y.amt, y.exp⟩ :: y.hops⟩)) := by
                  show _ = _
                  rw [HST.out]; unfold lastW; rw [HCD.out, hRF.out]; rfl
                clear hbad
                go_quiet (fail)
                generalize hq : w5.drewN _ = w6
                have HB6 : Hid (FdL w A ob bl cb nb mm (.slice (some ⟨qb, qo, none⟩) Ws.length vc) L Ws lb A.amt A.exp pm R b y xb #[.string ch, .string ea, .string eb, .int .i64 cp, .string fr, .string dt] w6) := by rw [← hq]; exact HB.out.next (bdN (Below.refl _ _) _)
                clear hq HB x3 x4 a0 a1 a2 a3 a4 a5 hl0 y0 y1 yl q1 d1 d2 d3 hmul hsub HCD HST
                go_wp2_with fail
                have Z0 := FdL.cells HB6.out HNN.out
                obtain ⟨x0, x1, x2, x3, x4, x5⟩ := Z0
                have ZA : FdL w A ob bl cb nb mm (.slice (some ⟨qb, qo, none⟩) Ws.length vc) L Ws lb A.amt A.exp pm R b y xb #[.string ch, .string ea, .string eb, .int .i64 cp, .string fr, .string dt] (w6.alloc (.cells #[.int .i64 y.amt, .int .i64 y.exp, .int .i64 (IntKind.i64.wrap (nn + 1)), .string ch, .string dt, .int .i64 y.amt, .int .i64 y.exp, .pointer (some ⟨b, 0, none⟩)] 138)).drew := HB6.out.next (below_new' _ _).drew
                have HEN : EndAt (w6.alloc (.cells #[.int .i64 y.amt, .int .i64 y.exp, .int .i64 (IntKind.i64.wrap (nn + 1)), .string ch, .string dt, .int .i64 y.amt, .int .i64 y.exp, .pointer (some ⟨b, 0, none⟩)] 138)).drew w6.heap.size y.amt y.exp (⟨ch, dt, y.amt, y.exp⟩ :: y.hops) := by
                  refine ⟨b, ?_, ZA.e⟩
                  rw [Int.natCast_succ, HNN.out]
                  refine (heap_alloc_at w6 _).trans ?_
                  rw [HCN.out]
                have HC2 : Hid (Calls Tryz.prog 78 #[.map (some pm), .string A.frm, .pointer (some ⟨w6.heap.size, 0, none⟩)] (w6.alloc (.cells #[.int .i64 y.amt, .int .i64 y.exp, .int .i64 (IntKind.i64.wrap (nn + 1)), .string ch, .string dt, .int .i64 y.amt, .int .i64 y.exp, .pointer (some ⟨b, 0, none⟩)] 138)).drew fun e w' => e = .returned (.tuple #[]) ∧ FdL w A ob bl cb nb mm (.slice (some ⟨qb, qo, none⟩) Ws.length vc) L Ws lb A.amt A.exp pm (putR R A.frm ⟨y.amt, y.exp, ⟨ch, dt, y.amt, y.exp⟩ :: y.hops⟩) b y xb #[.string ch, .string ea, .string eb, .int .i64 cp, .string fr, .string dt] w') := (best_any pm R A.frm (some (w6.heap.size, ⟨y.amt, y.exp, ⟨ch, dt, y.amt, y.exp⟩ :: y.hops⟩)) _ ZA.f.rc HEN).mono fun e w' k => ⟨k.1, ZA.turn k.2.1 k.2.2⟩
                have ZC := FdL.cells ZA HNN.out
                have hl6 := lt_of_heap HB6.out.k
                have hl7 := lt_of_heap HB6.out.f.o.box
                obtain ⟨_, _, _, hl8⟩ := end_three HB6.out.e
                clear HEN ZA
                go_region_held3 (fun w' => w'.cell? ⟨w.heap.size, 0, none⟩ = some (.string A.frm) ∧ w'.cell? ⟨xb, 0, none⟩ = some (.string ch) ∧ w'.cell? ⟨xb, 5, none⟩ = some (.string dt) ∧ w'.cell? ⟨b, 0, none⟩ = some (.int .i64 y.amt) ∧ w'.cell? ⟨b, 1, none⟩ = some (.int .i64 y.exp) ∧ w'.cell? ⟨b, 2, none⟩ = some (.int .i64 nn))
                  (first | exact ⟨x0, x1, x2, x3, x4, x5⟩ | exact ZC | exact FdL.cells (by assumption) HNN.out | go_keep)
                  ((first | (go_at_call 78; (with_reducible refine Calls.mono HC2.out ?_); rintro e8 w8 ⟨rfl, Z8⟩)))
                go_wp2_with fail
                go_roundw
                case rel => exact ⟨i + 1, putR R A.frm ⟨y.amt, y.exp, ⟨ch, dt, y.amt, y.exp⟩ :: y.hops⟩, hlt2, by rw [Int.natCast_succ], Z8.f, fun t ht => by rw [look_put, if_neg (Ne.symm ht)]; exact hRO.out t ht, by show _ = _; rw [look_put, if_pos rfl, HSTEP.out]⟩
                case measure => simp only [intOf]; omega
          · have q1 := toList_ne hfr
            have HSAME : Hid ((ways.take (i + 1)).foldl (lastW A R0) none = (ways.take i).foldl (lastW A R0) none) := by
              show _ = _
              rw [HST.out]; unfold lastW candL; dsimp only
              cases lookR R0 dt with
              | none => rfl
              | some y => dsimp only; rw [if_pos (.inl hfr)]
            obtain ⟨a0, a1, a2, a3, a4, a5, hl0⟩ := ask_at hF.out.o.box
            cases hv : lookR R dt with
            | none =>
              rw [hv] at hpv
              dsimp only at hpv
              subst hpv
              clear hv hfr hdif
              go_wp2_with fail
              go_quiet (fail)
              go_wp2_with fail
              go_roundw
              case rel => exact ⟨i + 1, R, hlt2, by rw [Int.natCast_succ], HX5.out.next (bdN (Below.refl _ _) _), hRO.out, by show _ = _; rw [HSAME.out]; exact hRF.out⟩
              case measure => simp only [intOf]; omega
            | some y =>
              rw [hv] at hpv
              obtain ⟨b, rfl, hE⟩ := hpv
              clear hv hfr hdif hE
              go_wp2_with fail
              go_quiet (fail)
              go_wp2_with fail
              go_roundw
              case rel => exact ⟨i + 1, R, hlt2, by rw [Int.natCast_succ], HX5.out.next (bdN (Below.refl _ _) _), hRO.out, by show _ = _; rw [HSAME.out]; exact hRF.out⟩
              case measure => simp only [intOf]; omega
        · obtain rfl : i = Ws.length := by omega
          have HEND : Hid (lookR R A.frm = out) := by
            have h1 := hRF.out
            have h2 : ways.take Ws.length = ways := by rw [← HW.out, List.take_of_length_le]; simp
            rw [h2] at h1
            exact h1.trans HFB.out
          clear hRF hRO hi hlt2
          obtain ⟨a0, a1, a2, a3, a4, a5, hl0⟩ := ask_at hF.out.o.box
          obtain ⟨pv, hlk, hpv⟩ := hF.out.rc.look A.frm
          rw [HEND.out] at hpv
          have hlk2 := hlk wr rfl
          have HBW : Hid (Below w.heap.size w wr) := hF.out.o.bel
          clear hlk hF
          cases out with
          | none =>
            dsimp only at hpv
            subst hpv
            go_wp2_with (first | (refine wp_loop_once ?_))
            go_ret2
            exact ⟨HBW.out, _, rfl, World.ownsRow_nil _ _ _ _⟩
          | some x =>
            obtain ⟨b, rfl, hE⟩ := hpv
            have HE := Lib.hid hE
            obtain ⟨hps, hpl⟩ := HPOS.out x rfl
            have HPL := Lib.hid hpl
            have HPS := Lib.hid hps
            clear hE hps hpl
            go_wp2_with fail
            clear hlk2 a0 a1 a2 a3 a4 a5 hl0
            go_loopw [20, 21] (fun lv xv wr => ∃ (H t : List Hp) (a e : Int) (c : Nat), xv = .pointer (some ⟨c, 0, none⟩) ∧ Hid (H ++ t = x.hops) ∧ Hid (EndAt wr c a e t) ∧ Hid (Below w.heap.size w wr) ∧ Hid (wr.ownsRow w.heap.size 49 4 lv H.length (H.flatMap hpC))) (fun _ xv wr => cntE wr xv)
            case atStart => exact ⟨[], x.hops, x.amt, x.exp, b, rfl, rfl, HE.out, HBW.out, World.ownsRow_nil _ _ _ _⟩
            case round =>
              clear HE HBW
              obtain ⟨H, t, a, e, c, rfl, hHt, hE, hB, hO⟩ := hrel
              obtain ⟨la, lc, rfl⟩ := own_slice hO.out
              cases t with
              | nil =>
                have p7 : wr.cell? ⟨c, 7, none⟩ = some (.pointer none) := by rw [cell_of_row _ _ _ _ _ _ hE.out]; rfl
                have hH : H = x.hops := by have := hHt.out; rwa [List.append_nil] at this
                subst hH
                have hne : (((x.hops.length : Nat) : Int) == 0) = false := by have := HPS.out; simp; intro h; rw [h] at this; simp at this
                clear hHt hE
                go_wp2_with fail
                go_ret2
                exact ⟨hB.out, _, rfl, hO.out⟩
              | cons h t =>
                obtain ⟨d, k1, k2⟩ := hE.out
                have p3 : wr.cell? ⟨c, 3, none⟩ = some (.string h.chan) := by rw [cell_of_row _ _ _ _ _ _ k1]; rfl
                have p4 : wr.cell? ⟨c, 4, none⟩ = some (.string h.node) := by rw [cell_of_row _ _ _ _ _ _ k1]; rfl
                have p5 : wr.cell? ⟨c, 5, none⟩ = some (.int .i64 h.amt) := by rw [cell_of_row _ _ _ _ _ _ k1]; rfl
                have p6 : wr.cell? ⟨c, 6, none⟩ = some (.int .i64 h.exp) := by rw [cell_of_row _ _ _ _ _ _ k1]; rfl
                have p7 : wr.cell? ⟨c, 7, none⟩ = some (.pointer (some ⟨d, 0, none⟩)) := by rw [cell_of_row _ _ _ _ _ _ k1]; rfl
                have K1 := Lib.hid k1
                have K2 := Lib.hid k2
                have hHl : H.length ≤ 20 := by have h1 := HPL.out; rw [← hHt.out, List.length_append] at h1; omega
                have hbs := hB.out.size
                have HMS : Hid (cntE wr (.pointer (some ⟨c, 0, none⟩)) = (h :: t).length) := cntE_at hE.out
                obtain ⟨i0, hi0, hz0, hz1, hz2⟩ := info_parts Tryz.info49h
                clear k1 k2 hE
                go_wp2_with (at_builtin; refine wpList_append_lies _ rfl _ _ _ rfl w.heap.size 49 i0 _ 4 48 Tryz.underlying41 hi0 hz0 hz1 hz2 rfl (by omega) (.slice la H.length lc) H.length (H.flatMap hpC) rfl (World.ownsRow.alloc hO.out _) ⟨wr.heap.size, 0, none⟩ 1 1 [.string h.chan, .string h.node, .int .i64 h.amt, .int .i64 h.exp] rfl rfl (World.news_of_block (cs := #[.string h.chan, .string h.node, .int .i64 h.amt, .int .i64 h.exp]) (t := 49) (fr := (0, 0)) (heap_alloc_at wr _)) (by simp [Value.oneCell']) (by omega) (by unfold maxLen; omega) (by omega) (by simp; omega) (wr.heap.size + 1) (by simp) ?_; intro g cap w2 hown2 hgrow2 hat2 hlt2; have KK2 : Hid (EndAt w2 d h.amt h.exp t) := EndAt.keepT (fun k cs f hk => grown_keep hO.out hgrow2 hk (by decide)) K2.out; have BB2 : Hid (Below w.heap.size w w2) := grown_bel hB.out hO.out hgrow2; have p7' : w2.cell? ⟨c, 7, none⟩ = some (.pointer (some ⟨d, 0, none⟩)) := (by rw [cell_of_row _ _ _ _ _ _ (grown_keep hO.out hgrow2 K1.out (by decide))]; rfl); have HO2 : Hid (w2.ownsRow w.heap.size 49 4 (.slice (some ⟨g, 0, none⟩) (H.length + 1) cap) (H ++ [h]).length ((H ++ [h]).flatMap hpC)) := (by show World.ownsRow _ _ _ _ _ _ _; rw [List.flatMap_append, List.length_append]; exact hown2); clear hown2 hgrow2 hat2 hlt2)
                go_roundw
                case rel => exact ⟨H ++ [h], t, h.amt, h.exp, d, rfl, by show _ = _; rw [← hHt.out]; simp, KK2.out, BB2.out, HO2.out⟩
                case measure => rw [HMS.out, cntE_at KK2.out]; simp
theorem find_any (oe : Option Addr) (E : List Edg) (ce : Nat) (op : Option Addr) (P : List Plc) (cp : Nat) (A : AskR) (ob : Option Addr) (cb : Nat) (w : World) (hs1 : A.frm.size ≤ maxLen) (hs2 : A.dst.size ≤ maxLen) (hL : LibOk w)
    (hE : RowsAt 4 edgC oe E w) (hP : RowsAt 9 plcC op P w) (hB : StrsAt ob A.bad w) : Calls Tryz.prog 20 #[.slice oe E.length ce, .slice op P.length cp, askV A ob cb] w (FindPost (findN isKey E P A) w) := by
  by_cases h0 : refusedN isKey E P A = 0
  · exact find_yes oe E ce op P cp A ob cb w hs1 hs2 hL hE hP hB h0
  · exact find_no oe E ce op P cp A ob cb w hs1 hs2 hL hE hP hB h0
end Go.Proofs.YtbdimlppnhcicaaGreatDoor
