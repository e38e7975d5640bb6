/- onion: Build in plain words -/
import Derived.Test.YtbdimlppnhcicaaGreatDoorOnE
import Derived.Laws.CopyOwn
import Derived.Laws.Tables
namespace Go.Proofs.YtbdimlppnhcicaaGreatDoor
set_option linter.unusedVariables false
open Go.RowKit
/-! onion: Build, in plain words -/
structure Rnd where
  packet : ByteArray
  key : ByteArray
  bad : Bool
def rndE (drawn : List ByteArray) (hs : List Hp) (pay : ByteArray) (i : Nat) (packet : ByteArray) : List (ByteArray × Int) :=
  [payP hs pay i, agreeP (drawn.getD i ⟨#[]⟩) (hs.getD i hp0).node, tupleP [(payP hs pay i).1, packet], buildP ⟨#[66]⟩ [(agreeP (drawn.getD i ⟨#[]⟩) (hs.getD i hp0).node).1, (tupleP [(payP hs pay i).1, packet]).1], pubP (drawn.getD i ⟨#[]⟩),
    tupleP [(pubP (drawn.getD i ⟨#[]⟩)).1, (buildP ⟨#[66]⟩ [(agreeP (drawn.getD i ⟨#[]⟩) (hs.getD i hp0).node).1, (tupleP [(payP hs pay i).1, packet]).1]).1]]
def bad6 (a b c d e f : Int) : Bool := decide (a ≠ 0) || decide (b ≠ 0) || decide (c ≠ 0) || decide (d ≠ 0) || decide (e ≠ 0) || decide (f ≠ 0)
def rnd (drawn : List ByteArray) (hs : List Hp) (pay : ByteArray) (i : Nat) (packet : ByteArray) : Rnd :=
  let pl := payP hs pay i
  let key := agreeP (drawn.getD i ⟨#[]⟩) (hs.getD i hp0).node
  let tp := tupleP [pl.1, packet]
  let bx := buildP ⟨#[66]⟩ [key.1, tp.1]
  let pb := pubP (drawn.getD i ⟨#[]⟩)
  let al := tupleP [pb.1, bx.1]
  ⟨al.1, key.1, bad6 pl.2 key.2 tp.2 bx.2 pb.2 al.2⟩
def goB (drawn : List ByteArray) (hs : List Hp) (pay : ByteArray) : Nat → Option (ByteArray × List ByteArray)
  | 0 => some (⟨#[84, 48, 58]⟩, [])
  | k + 1 => match goB drawn hs pay k with
    | none => none
    | some (p, ks) => if (rnd drawn hs pay (hs.length - 1 - k) p).bad then none else some ((rnd drawn hs pay (hs.length - 1 - k) p).packet, (rnd drawn hs pay (hs.length - 1 - k) p).key :: ks)
theorem goB_none {drawn : List ByteArray} {hs : List Hp} {pay : ByteArray} {k : Nat} (h : goB drawn hs pay k = none) : ∀ j, goB drawn hs pay (k + j) = none
  | 0 => h
  | j + 1 => by
    have := goB_none h j
    show goB drawn hs pay (k + j + 1) = none
    unfold goB
    rw [this]
theorem goB_bad {drawn : List ByteArray} {hs : List Hp} {pay : ByteArray} {k n : Nat} {p : ByteArray} {ks : List ByteArray} (h : goB drawn hs pay k = some (p, ks)) (hb : (rnd drawn hs pay (hs.length - 1 - k) p).bad = true) (hn : k < n) : goB drawn hs pay n = none := by
  have h1 : goB drawn hs pay (k + 1) = none := by
    unfold goB
    rw [h]
    dsimp only
    rw [if_pos hb]
  have := goB_none h1 (n - (k + 1))
  rwa [show k + 1 + (n - (k + 1)) = n by omega] at this
theorem goB_next {drawn : List ByteArray} {hs : List Hp} {pay : ByteArray} {k : Nat} {p : ByteArray} {ks : List ByteArray} (h : goB drawn hs pay k = some (p, ks)) (hb : (rnd drawn hs pay (hs.length - 1 - k) p).bad = false) : goB drawn hs pay (k + 1) = some ((rnd drawn hs pay (hs.length - 1 - k) p).packet, (rnd drawn hs pay (hs.length - 1 - k) p).key :: ks) := by
  rw [show goB drawn hs pay (k + 1) = (match goB drawn hs pay k with
    | none => none
    | some (p, ks) => if (rnd drawn hs pay (hs.length - 1 - k) p).bad then none else some ((rnd drawn hs pay (hs.length - 1 - k) p).packet, (rnd drawn hs pay (hs.length - 1 - k) p).key :: ks)) from rfl, h]
  dsimp only
  rw [if_neg (by rw [hb]; decide)]
theorem goB_len {drawn : List ByteArray} {hs : List Hp} {pay : ByteArray} : ∀ {k : Nat} {p : ByteArray} {ks : List ByteArray}, goB drawn hs pay k = some (p, ks) → ks.length = k
  | 0, p, ks, h => by cases h; rfl
  | k + 1, p, ks, h => by
    cases hg : goB drawn hs pay k with
    | none => rw [show k + 1 = k + 1 from rfl, goB_none hg 1] at h; cases h
    | some x =>
      obtain ⟨q, qs⟩ := x
      cases hb : (rnd drawn hs pay (hs.length - 1 - k) q).bad with
      | true => rw [goB_bad hg hb (Nat.lt_succ_self k)] at h; cases h
      | false =>
        rw [goB_next hg hb] at h
        cases h
        rw [List.length_cons, goB_len hg]
theorem goB_le {drawn : List ByteArray} {hs : List Hp} {pay : ByteArray} {k : Nat} {p : ByteArray} {ks : List ByteArray} (h : goB drawn hs pay k = some (p, ks)) : p.size ≤ 16384 := by
  cases k with
  | zero => cases h; decide
  | succ k =>
    cases hg : goB drawn hs pay k with
    | none => rw [goB_none hg 1] at h; cases h
    | some x =>
      obtain ⟨q, qs⟩ := x
      cases hb : (rnd drawn hs pay (hs.length - 1 - k) q).bad with
      | true => rw [goB_bad hg hb (Nat.lt_succ_self k)] at h; cases h
      | false =>
        rw [goB_next hg hb] at h
        cases h
        exact tupleP_le _
def hopAt (drawn : List ByteArray) (hs : List Hp) (j : Nat) : Int := hopE (hs.getD j hp0) (j == 0) (drawn.getD j ⟨#[]⟩)
def hopsF (drawn : List ByteArray) (hs : List Hp) : Nat → Nat → Int
  | 0, _ => 0
  | r + 1, i => if hopAt drawn hs i ≠ 0 then hopAt drawn hs i else hopsF drawn hs r (i + 1)
def hopsE (drawn : List ByteArray) (hs : List Hp) : Int := hopsF drawn hs hs.length 0
theorem hopsF_at {drawn : List ByteArray} {hs : List Hp} : ∀ (r i j : Nat), i ≤ j → j < i + r → (∀ k, i ≤ k → k < j → hopAt drawn hs k = 0) → hopAt drawn hs j ≠ 0 → hopsF drawn hs r i = hopAt drawn hs j
  | 0, i, j, h1, h2, _, _ => by omega
  | r + 1, i, j, h1, h2, h3, h4 => by
    unfold hopsF
    by_cases hij : i = j
    · subst hij; rw [if_pos h4]
    · rw [if_neg (by rw [h3 i (Nat.le_refl _) (by omega)]; simp)]
      exact hopsF_at r (i + 1) j (by omega) (by omega) (fun k hk hk2 => h3 k (by omega) hk2) h4
theorem hopsF_no {drawn : List ByteArray} {hs : List Hp} : ∀ (r i : Nat), (∀ k, i ≤ k → k < i + r → hopAt drawn hs k = 0) → hopsF drawn hs r i = 0
  | 0, i, _ => rfl
  | r + 1, i, h => by
    unfold hopsF
    rw [if_neg (by rw [h i (Nat.le_refl _) (by omega)]; simp)]
    exact hopsF_no r (i + 1) (fun k hk hk2 => h k (by omega) (by omega))
theorem hopE_ok {h : Hp} {first : Bool} {d : ByteArray} (he : hopE h first d = 0) : HpOk h := by
  unfold hopE at he
  by_cases h1 : 100 < h.chan.size ∨ (h.chan = ⟨#[]⟩ ∧ first = false) ∨ h.exp < 0 ∨ 2147483648 ≤ h.exp
  · rw [if_pos h1] at he; cases he
  · rw [if_neg h1] at he
    by_cases h2 : h.amt < 0 ∨ 2100000000000000000 < h.amt
    · rw [if_pos h2] at he; cases he
    · simp only [not_or] at h1 h2
      exact ⟨by omega, by omega, by omega, by omega, by omega⟩
/-- what Build answers: the packet, the keys, the error -/
def buildR (drawn : List ByteArray) (hs : List Hp) (pay : ByteArray) : ByteArray × List ByteArray × Int :=
  if hs.length = 0 ∨ 20 < hs.length ∨ drawn.length ≠ hs.length then (⟨#[]⟩, [], 2)
  else if hopsE drawn hs ≠ 0 then (⟨#[]⟩, [], hopsE drawn hs)
  else if rt pay = false then (⟨#[]⟩, [], 10)
  else match goB drawn hs pay hs.length with
    | none => (⟨#[]⟩, [], 3)
    | some (p, ks) => (p, ks, 0)
def BuildPost (r : ByteArray × List ByteArray × Int) (w : World) (e : Ending) (w' : World) : Prop :=
  Below w.heap.size w w' ∧ ∃ v, e = .returned (.tuple #[.string r.1, v, .int .i64 r.2.2]) ∧ w'.ownsRow w.heap.size 23 1 v r.2.1.length (r.2.1.map .string)
theorem build_err {r : ByteArray × List ByteArray × Int} {x : Int} {w w' : World} {e : Ending} (hr : r = (⟨#[]⟩, [], x)) (he : e = .returned (.tuple #[.string ⟨#[]⟩, .slice none 0 0, .int .i64 x])) (hb : Below w.heap.size w w') : BuildPost r w e w' := by
  subst hr
  exact ⟨hb, _, he, World.ownsRow_nil _ _ _ _⟩
/-! the state of a making -/
structure StC (w0 : World) (mb kb : Nat) (b : Bool) (ks : Array Value) (W : World) : Prop where
  bel : Below w0.heap.size w0 W
  m : MAt mb b W
  k : W.heap[kb]? = some (.cells ks 23 (0, 0))
  hm : w0.heap.size ≤ mb
  hk : w0.heap.size ≤ kb
theorem StC.next {w0 W W' : World} {mb kb : Nat} {b : Bool} {ks : Array Value} (h : StC w0 mb kb b ks W) (hb : Below W.heap.size W W') : StC w0 mb kb b ks W' :=
  ⟨h.bel.trans (hb.mono h.bel.size), h.m.below hb, (hb.block kb (lt_of_heap h.k)).trans h.k, h.hm, h.hk⟩
theorem StC.of {w0 W : World} {mb kb : Nat} {b : Bool} {ks : Array Value} (h : StC w0 mb kb b ks W) (c : Bool) : StC w0 mb kb c ks (W.setCell ⟨mb, 0, none⟩ (.bool c)) :=
  ⟨h.bel.setCell (p := ⟨mb, 0, none⟩) h.hm _, h.m.set c, (heap_setCell_other _ _ _ _ (fun e => type_ne h.m h.k (by decide) e.symm)).trans h.k, h.hm, h.hk⟩
theorem StC.put {w0 W : World} {mb kb : Nat} {b : Bool} {ks : Array Value} (h : StC w0 mb kb b ks W) (j : Nat) (v : Value) : StC w0 mb kb b (ks.setIfInBounds j v) (W.setCell ⟨kb, j, none⟩ v) :=
  ⟨h.bel.setCell (p := ⟨kb, j, none⟩) h.hk _, (heap_setCell_other _ _ _ _ (fun e => type_ne h.m h.k (by decide) e)).trans h.m, heap_setCell_same _ kb j _ 23 _ h.k, h.hm, h.hk⟩
theorem StC.row {w0 W : World} {mb kb kh : Nat} {b : Bool} {ks : Array Value} (h : StC w0 mb kb b ks W) (hk : w0.heap.size ≤ kh) {cs : Array Value} (hg : W.heap[kh]? = some (.cells cs 49 (0, 0))) (new : Array Value) : StC w0 mb kb b ks (W.setRow kh new) :=
  ⟨below_setRow h.bel hk new, (setRow_other W kh mb new (fun e => type_ne h.m hg (by decide) e)).trans h.m, (setRow_other W kh kb new (fun e => type_ne h.k hg (by decide) e)).trans h.k, h.hm, h.hk⟩
/-- an old block stays -/
theorem StC.old {w0 W : World} {mb kb : Nat} {b : Bool} {ks : Array Value} (h : StC w0 mb kb b ks W) {g : Nat} {o : Obj} (hg : w0.heap[g]? = some o) : W.heap[g]? = some o := (h.bel.block g (lt_of_heap hg)).trans hg
/-- a block of hops' type stays -/
theorem StC.ofHop {W : World} {mb g : Nat} {b c : Bool} {cs : Array Value} (hm : MAt mb b W) (hg : W.heap[g]? = some (.cells cs 49 (0, 0))) : (W.setCell ⟨mb, 0, none⟩ (.bool c)).heap[g]? = some (.cells cs 49 (0, 0)) :=
  (heap_setCell_other _ _ _ _ (fun e => type_ne hm hg (by decide) e.symm)).trans hg
/-- the state, and a hop's cells -/
def StH (w0 : World) (mb kb kh : Nat) (b : Bool) (ks hc : Array Value) (W : World) : Prop := StC w0 mb kb b ks W ∧ W.heap[kh]? = some (.cells hc 49 (0, 0))
theorem StH.next {w0 W W' : World} {mb kb kh : Nat} {b : Bool} {ks hc : Array Value} (h : StH w0 mb kb kh b ks hc W) (hb : Below W.heap.size W W') : StH w0 mb kb kh b ks hc W' := ⟨h.1.next hb, (hb.block kh (lt_of_heap h.2)).trans h.2⟩
theorem StH.of {w0 W : World} {mb kb kh : Nat} {b : Bool} {ks hc : Array Value} (h : StH w0 mb kb kh b ks hc W) (c : Bool) : StH w0 mb kb kh c ks hc (W.setCell ⟨mb, 0, none⟩ (.bool c)) := ⟨h.1.of c, StC.ofHop h.1.m h.2⟩
theorem StH.cells {w0 W : World} {mb kb kh : Nat} {b : Bool} {ks : Array Value} {c0 c1 c2 c3 : Value} (h : StH w0 mb kb kh b ks #[c0, c1, c2, c3] W) : W.cell? ⟨kh, 2, none⟩ = some c2 ∧ W.cell? ⟨kh, 3, none⟩ = some c3 := ⟨(four h.2).2.2.1, (four h.2).2.2.2⟩
theorem sth_of (w0 : World) (mb kb kh : Nat) (b : Bool) (ks hc : Array Value) (t : ByteArray) (e : Int) (W : World) (h : StH w0 mb kb kh b ks hc W) : Calls Tryz.prog 67 #[.pointer (some ⟨mb, 0, none⟩), .string t, .int .i64 e] W fun y w' => y = .returned (.string t) ∧ StH w0 mb kb kh (b || decide (e ≠ 0)) ks hc w' :=
  (of_any mb b t e W h.1.m).mono fun y w' ⟨h1, h2⟩ => ⟨h1, by rw [h2]; exact h.of _⟩
theorem stc_of (w0 : World) (mb kb : Nat) (b : Bool) (ks : Array Value) (t : ByteArray) (e : Int) (W : World) (h : StC w0 mb kb b ks W) : Calls Tryz.prog 67 #[.pointer (some ⟨mb, 0, none⟩), .string t, .int .i64 e] W fun y w' => y = .returned (.string t) ∧ StC w0 mb kb (b || decide (e ≠ 0)) ks w' :=
  (of_any mb b t e W h.m).mono fun y w' ⟨h1, h2⟩ => ⟨h1, by rw [h2]; exact h.of _⟩
end Go.Proofs.YtbdimlppnhcicaaGreatDoor
