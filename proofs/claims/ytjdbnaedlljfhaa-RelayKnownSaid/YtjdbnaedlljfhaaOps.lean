/- The relay's calls, in a row; large; Open and Close as one. -/
import Derived.Test.YtjdbnaedlljfhaaList
namespace Go.Proofs.Ytjdbnaedlljfhaa
open Go.RowKit

/-- a circuit lies at these cells -/
structure CircAt (w : World) (b o : Nat) (c : Circ) : Prop where
  q0 : w.cell? ⟨b, o, none⟩ = some (.string c.ic)
  q1 : w.cell? ⟨b, o + 1, none⟩ = some (.int .i64 c.ii)
  q2 : w.cell? ⟨b, o + 2, none⟩ = some (.string c.oc)
  q3 : w.cell? ⟨b, o + 3, none⟩ = some (.int .i64 c.oi)
  q4 : w.cell? ⟨b, o + 4, none⟩ = some (.int .i64 c.ia)
  q5 : w.cell? ⟨b, o + 5, none⟩ = some (.int .i64 c.oa)
  q6 : w.cell? ⟨b, o + 6, none⟩ = some (.int .i64 c.ie)
  q7 : w.cell? ⟨b, o + 7, none⟩ = some (.int .i64 c.oe)
  q8 : w.cell? ⟨b, o + 8, none⟩ = some (.string c.hash)
  q9 : w.cell? ⟨b, o + 9, none⟩ = some (.string c.sh)
theorem CircAt.block {w w' : World} {b o : Nat} {c : Circ} (h : CircAt w b o c) (hb : w'.heap[b]? = w.heap[b]?) : CircAt w' b o c :=
  ⟨(World.cell?_of_block hb).trans h.q0, (World.cell?_of_block hb).trans h.q1, (World.cell?_of_block hb).trans h.q2, (World.cell?_of_block hb).trans h.q3, (World.cell?_of_block hb).trans h.q4, (World.cell?_of_block hb).trans h.q5, (World.cell?_of_block hb).trans h.q6, (World.cell?_of_block hb).trans h.q7, (World.cell?_of_block hb).trans h.q8, (World.cell?_of_block hb).trans h.q9⟩
theorem CircAt.below {w w' : World} {b o : Nat} {c : Circ} (h : CircAt w b o c) (hb : Below w.heap.size w w') : CircAt w' b o c := h.block (hb.block b (World.block_lt_of_cell? w _ h.q0))
structure Cal where
  kind : Int
  c : Circ
def OpsAt (w : World) (a : Option Addr) (ops : List Cal) : Prop := ops = [] ∨ ∃ b off, a = some ⟨b, off, none⟩ ∧ ∀ (k : Nat) (o : Cal), ops[k]? = some o → w.cell? ⟨b, off + k * 11, none⟩ = some (.int .u8 o.kind) ∧ CircAt w b (off + k * 11 + 1) o.c ∧ 0 ≤ o.kind ∧ o.kind < 256 ∧ o.c.fits ∧ o.c.hash.size ≤ maxLen ∧ o.c.sh.size ≤ maxLen
theorem OpsAt.below {w w' : World} {a : Option Addr} {ops : List Cal} (h : OpsAt w a ops) (hb : Below w.heap.size w w') : OpsAt w' a ops := by
  rcases h with h | ⟨b, off, ha, hk⟩
  · exact .inl h
  · exact .inr ⟨b, off, ha, fun k o ho => ⟨cell_later hb (hk k o ho).1, (hk k o ho).2.1.below hb, (hk k o ho).2.2⟩⟩
def SomeBool (w : World) (e : Ending) (w' : World) : Prop := ∃ b, e = .returned (.bool b) ∧ Below w.heap.size w w'
set_option maxRecDepth 100000 in
set_option maxHeartbeats 2000000 in
/-- large tells something -/
theorem large_any (a : Option Addr) (cp : Nat) (ops : List Cal) (w : World) (hm : ops.length ≤ maxLen) (ho : OpsAt w a ops) : Calls Try.prog 13 #[.slice a ops.length cp] w (SomeBool w) := by
  have HO := Lib.hid ho
  clear ho
  unfold maxLen at hm
  go_enter Try.func13, Try.ntmps13
  go_wp2
  go_loopw [3, 4] (fun nv iv wr => ∃ (k : Nat) (y : Int), k ≤ ops.length ∧ iv = .int .i64 k ∧ nv = .int .i64 y ∧ Hid (Below w.heap.size w wr)) (fun _ iv _ => ops.length - (intOf iv).toNat)
  case atStart => exact ⟨0, 0, Nat.zero_le _, rfl, rfl, Below.refl _ _⟩
  case round =>
    obtain ⟨k, y, hk, rfl, rfl, hB⟩ := hrel
    by_cases hlt : k < ops.length
    · have hkl : (k : Int) < (ops.length : Int) := by omega
      by_cases h3 : y ≤ 40000
      · obtain ⟨o, hoo⟩ : ∃ o, ops[k]? = some o := ⟨_, List.getElem?_eq_getElem hlt⟩
        have hne : ops ≠ [] := by intro h; rw [h] at hlt; simp at hlt
        obtain ⟨b, off, rfl, hrec⟩ := (HO.out.below hB.out).resolve_left hne
        obtain ⟨_, hc, _⟩ := hrec k o hoo
        obtain ⟨q0, q1, q2, q3, q4, q5, q6, q7, q8, q9⟩ := hc
        have hBs := hB.out.size
        clear hoo hrec
        go_wp2_with fail
        go_roundw
        case rel => exact ⟨k + 1, _, by omega, by go_num, rfl, hB.out.alloc hBs _⟩
        case measure => simp [intOf]; omega
      · have h3' : decide (y ≤ 40000) = false := by simpa using h3
        have h4 : 40000 < y := by omega
        go_wp2_with fail
        go_ret
        first | exact hB.out | exact ⟨_, rfl, hB.out⟩
    · obtain rfl : k = ops.length := by omega
      go_wp2_with fail
      all_goals go_ret
      all_goals first | exact hB.out | exact ⟨_, rfl, hB.out⟩
/-- what Open makes of the circuits, what it tells -/
def openN (L : List Circ) (c : Circ) : List Circ × Int :=
  if mayB c.ic c.ii && mayB c.oc c.oi then
    if (findC (Circ.inIs c.ic c.ii) L 0).isSome || (findC (Circ.outIs c.oc c.oi) L 0).isSome then (L, 6)
    else if 256 ≤ L.length then (L, 3) else (L ++ [c], 0)
  else (L, 2)
/-- a relay turned by a call -/
def TurnPost (w : World) (base rb mi mo : Nat) (v : Value) (L' : List Circ) (x : Value) (e : Ending) (w' : World) : Prop := ∃ v', e = .returned x ∧ RelAt w' base rb mi mo v' L' ∧ (v'.ownBlock = v.ownBlock ∨ ∃ g, v'.ownBlock = some g ∧ w.heap.size ≤ g) ∧ Fr (RelS rb mi mo v) w w'
theorem turn_same {w w' : World} {base rb mi mo : Nat} {v : Value} {L : List Circ} (h : RelAt w base rb mi mo v L) {x : Value} {e : Ending} (he : e = .returned x) (hb : Below w.heap.size w w') : TurnPost w base rb mi mo v L x e w' := ⟨v, he, h.below hb, .inl rfl, Fr.below hb⟩
theorem open_sum (rb base mi mo : Nat) (v : Value) (L : List Circ) (w : World) (h : RelAt w base rb mi mo v L) (c : Circ) (hc : c.fits) : Calls Try.prog 22 #[.pointer (some ⟨rb, 0, none⟩), c.val] w (TurnPost w base rb mi mo v (openN L c).1 (.int .i64 (openN L c).2)) := by
  unfold openN
  cases hm : mayB c.ic c.ii with
  | false => exact (open_arg1 rb w c hc hm).mono fun e w' ⟨he, hb⟩ => turn_same h he hb
  | true =>
    cases hn : mayB c.oc c.oi with
    | false => exact (open_arg2 rb w c hc hm hn).mono fun e w' ⟨he, hb⟩ => turn_same h he hb
    | true =>
      cases hx : findC (Circ.inIs c.ic c.ii) L 0 with
      | some x =>
        cases hy : findC (Circ.outIs c.oc c.oi) L 0 with
        | some y => exact (open_ss rb base mi mo v L w h c hc hm hn x y hx hy).mono fun e w' ⟨he, hb⟩ => turn_same h he hb
        | none => exact (open_sn rb base mi mo v L w h c hc hm hn x hx hy).mono fun e w' ⟨he, hb⟩ => turn_same h he hb
      | none =>
        cases hy : findC (Circ.outIs c.oc c.oi) L 0 with
        | some y => exact (open_ns rb base mi mo v L w h c hc hm hn y hx hy).mono fun e w' ⟨he, hb⟩ => turn_same h he hb
        | none =>
          by_cases hf : 256 ≤ L.length
          · simp only [Option.isSome_none, Bool.and_self, if_true, Bool.or_self, Bool.false_eq_true, if_false, hf]
            exact (open_full rb base mi mo v L w h c hc hm hn hx hy hf).mono fun e w' ⟨he, hb⟩ => turn_same h he hb
          · simp only [Option.isSome_none, Bool.and_self, if_true, Bool.or_self, Bool.false_eq_true, if_false, hf]
            exact open_yes rb base mi mo v L w h c hc hm hn hx hy (by omega)
/-- what Close makes of the circuits, what it tells -/
def closeN (L : List Circ) (n : ByteArray) (i : Int) : List Circ × Circ × Int :=
  match findC (Circ.outIs n i) L 0 with
  | none => (L, Circ.zero, 5)
  | some (j, k) => (L.eraseIdx j, k, 0)
theorem close_sum (rb base mi mo : Nat) (v : Value) (L : List Circ) (w : World) (h : RelAt w base rb mi mo v L) (n : ByteArray) (i : Int) : Calls Try.prog 20 #[.pointer (some ⟨rb, 0, none⟩), .string n, .int .i64 i] w (TurnPost w base rb mi mo v (closeN L n i).1 (.tuple #[(closeN L n i).2.1.val, .int .i64 (closeN L n i).2.2])) := by
  unfold closeN
  cases hx : findC (Circ.outIs n i) L 0 with
  | none => exact (close_none rb base mi mo v L w h n i hx).mono fun e w' ⟨he, hb⟩ => turn_same h he hb
  | some x =>
    obtain ⟨j, k⟩ := x
    exact (close_some rb base mi mo v L w h n i j k hx).mono fun e w' ⟨he, v', h1, h2, h3⟩ => ⟨v', he, h1, .inl h2, h3⟩
/-- circuits that may be -/
def AllOk (L : List Circ) : Prop := ∀ c ∈ L, c.fits ∧ mayB c.ic c.ii = true ∧ mayB c.oc c.oi = true
theorem AllOk.open_ {L : List Circ} (h : AllOk L) (c : Circ) (hc : c.fits) : AllOk (openN L c).1 := by
  unfold openN
  split
  · rename_i hm
    split
    · exact h
    · split
      · exact h
      · intro x hx
        rcases List.mem_append.1 hx with hx | hx
        · exact h x hx
        · simp at hx; subst hx
          rw [Bool.and_eq_true] at hm
          exact ⟨hc, hm.1, hm.2⟩
  · exact h
theorem AllOk.close {L : List Circ} (h : AllOk L) (n : ByteArray) (i : Int) : AllOk (closeN L n i).1 := by
  unfold closeN
  cases findC (Circ.outIs n i) L 0 with
  | none => exact h
  | some x => exact fun c hc => h c (List.mem_of_mem_eraseIdx hc)
theorem turn_below {w w' : World} {base rb mi mo : Nat} {v : Value} {L L' : List Circ} {x : Value} {e : Ending} (h : RelAt w base rb mi mo v L) (ht : TurnPost w base rb mi mo v L' x e w') : e = .returned x ∧ (∃ v', RelAt w' base rb mi mo v' L') ∧ Below base w w' ∧ ∀ (g : Nat) (cur : Array Value) (t : TypeId) (fr : Nat × Nat), t ≠ 82 → t ≠ 84 → w.heap[g]? = some (.cells cur t fr) → w'.heap[g]? = w.heap[g]? := by
  obtain ⟨v', he, h1, _, h3⟩ := ht
  refine ⟨he, ⟨v', h1⟩, rel_below h h3, fun g cur t fr h82 h84 hg => h3.block g (lt_of_heap hg) ?_⟩
  rintro (e | e | e | e)
  · rw [e, h.rbk] at hg; injection hg with hg; injection hg with _ hg; exact h82 hg.symm
  · obtain ⟨es, c, e1, _⟩ := h.mik; rw [e, e1] at hg; injection hg with hg; cases hg
  · obtain ⟨es, c, e1, _⟩ := h.mok; rw [e, e1] at hg; injection hg with hg; cases hg
  · rcases h.own.2 with ⟨hv, _⟩ | ⟨g', cap, cur', hv, _, hh, _⟩
    · rw [hv] at e; cases e
    · rw [hv] at e
      simp only [Value.ownBlock, Option.some.injEq] at e
      rw [e] at hh; rw [hh] at hg; injection hg with hg; injection hg with _ hg; exact h84 hg.symm
end Go.Proofs.Ytjdbnaedlljfhaa
