/- seed: both stores side by side, in plain words. -/
import Derived.Test.YtnaodgljdbkmnaaDoorSeedK
namespace Go.Proofs.YtnaodgljdbkmnaaDoor
set_option linter.unusedVariables false
open Go.RowKit
/-- a step -/
structure Stp where
  kind : Int
  i : Int
  t : ByteArray
def StepsAt (w : World) (a : Option Addr) (ops : List Stp) : Prop := ops = [] ∨ ∃ b off, a = some ⟨b, off, none⟩ ∧ ∀ (k : Nat) (o : Stp), ops[k]? = some o → w.cell? ⟨b, off + k * 3, none⟩ = some (.int .i64 o.kind) ∧ w.cell? ⟨b, off + k * 3 + 1, none⟩ = some (.int .i64 o.i) ∧ w.cell? ⟨b, off + k * 3 + 2, none⟩ = some (.string o.t) ∧ o.t.size ≤ maxLen
theorem StepsAt.below {w w' : World} {a : Option Addr} {ops : List Stp} (h : StepsAt w a ops) (hb : Below w.heap.size w w') : StepsAt w' a ops := by
  rcases h with h | ⟨b, off, ha, hk⟩
  · exact .inl h
  · refine .inr ⟨b, off, ha, fun k o ho => ?_⟩
    obtain ⟨h0, h1, h2, h3⟩ := hk k o ho
    exact ⟨cell_later' hb h0, cell_later' hb h1, cell_later' hb h2, h3⟩
/-- the program's store and the document's have heard the same -/
structure Pr (w : World) (base sb mb : Nat) (v : Value) (H : List (List UInt8)) : Prop where
  st : St w sb H
  doc : DocSt w base mb v H
  h1 : base ≤ sb
theorem Pr.below {w w' : World} {base sb mb : Nat} {v : Value} {H : List (List UInt8)} (h : Pr w base sb mb v H) (hb : Below w.heap.size w w') : Pr w' base sb mb v H := ⟨h.st.below hb, h.doc.below hb, h.h1⟩
theorem St.heap {w : World} {sb : Nat} {H : List (List UInt8)} (h : St w sb H) : ∃ cs, w.heap[sb]? = some (.cells cs 85 (0, 0)) := by
  obtain ⟨_, g, _, hA⟩ := h; exact ⟨_, hA⟩
theorem type_ne {w : World} {a b : Nat} {cs ds : Array Value} {t u : TypeId} {f f' : Nat × Nat} (h : w.heap[a]? = some (.cells cs t f)) (h' : w.heap[b]? = some (.cells ds u f')) (hne : t ≠ u) : a ≠ b := by
  rintro rfl
  rw [h] at h'
  injection h' with h'
  injection h' with _ h'
  exact hne h'
theorem DocSt.fr {w w' : World} {base mb : Nat} {v : Value} {H : List (List UInt8)} {S : Nat → Prop} (h : DocSt w base mb v H) (hf : Fr S w w') (h1 : ¬ S mb) (h2 : ∀ g, v.ownBlock = some g → ¬ S g) : DocSt w' base mb v H :=
  ⟨(hf.block mb (lt_of_heap h.mbk) h1).trans h.mbk, own_blocks h.own fun g hg => hf.block g (h.own.lt g hg).2 (h2 g hg), h.h1⟩
theorem St.frS {w w' : World} {sb : Nat} {H : List (List UInt8)} {S : Nat → Prop} (h : St w sb H) (hf : Fr S w w') (h1 : ¬ S sb) : St w' sb H := by
  obtain ⟨hG, g, hO, hA⟩ := h; exact ⟨hG, g, hO, (hf.block sb hA.lt h1).trans hA⟩
/-- what was left lies apart -/
structure Ap (sb mb : Nat) (v : Value) (sb' mb' : Nat) (v' : Value) : Prop where
  s : sb ≠ sb'
  m : mb ≠ mb'
  o : ∀ g, v.ownBlock = some g → v'.ownBlock ≠ some g
theorem Ap.symm {sb mb : Nat} {v : Value} {sb' mb' : Nat} {v' : Value} (h : Ap sb mb v sb' mb' v') : Ap sb' mb' v' sb mb v := ⟨fun e => h.s e.symm, fun e => h.m e.symm, fun g hg hg' => h.o g hg' hg⟩
def Lft (w : World) (base sb mb : Nat) (v : Value) (n : Nat) (o : Option (Nat × Nat)) : Prop := ∀ sb' mb', o = some (sb', mb') → ∃ v' H', H'.length ≤ n ∧ Pr w base sb' mb' v' H' ∧ Ap sb mb v sb' mb' v'
theorem Lft.none {w : World} {base sb mb : Nat} {v : Value} {n : Nat} : Lft w base sb mb v n none := fun _ _ h => by cases h
theorem Lft.below {w w' : World} {base sb mb : Nat} {v : Value} {n m : Nat} {o : Option (Nat × Nat)} (h : Lft w base sb mb v n o) (hb : Below w.heap.size w w') (hnm : n ≤ m) : Lft w' base sb mb v m o := fun sb' mb' ho => by
  obtain ⟨v', H', h1, h2, h3⟩ := h sb' mb' ho
  exact ⟨v', H', Nat.le_trans h1 hnm, h2.below hb, h3⟩
def lvV (o : Option (Nat × Nat)) : Value := match o with | none => .pointer none | some (a, _) => .pointer (some ⟨a, 0, none⟩)
def kvV (o : Option (Nat × Nat)) : Value := match o with | none => .pointer none | some (_, b) => .pointer (some ⟨b, 0, none⟩)
theorem addH_len (H : List (List UInt8)) (i : Int) (t : ByteArray) : (addH H i t).length ≤ H.length + 1 := by
  unfold addH
  split
  · rw [List.length_append]; exact Nat.le_refl _
  · omega
/-- both have been asked Add -/
theorem pr_add {w w1 w2 : World} {base sb mb : Nat} {v : Value} {H H2 : List (List UInt8)} {X : Int} {e : Ending} (h : Pr w base sb mb v H) (h1 : St w1 sb H2) (f1 : Fr (Only sb) w w1) (h2 : DAddPost base mb v H2 X w1 e w2) :
    e = .returned (.int .i64 X) ∧ ∃ v2, Pr w2 base sb mb v2 H2 ∧ Below base w w2 ∧ (∀ n o, Lft w base sb mb v n o → Lft w2 base sb mb v2 n o) ∧ ∀ (k : Nat) (cs : Array Value) (f : Nat × Nat), w.heap[k]? = some (.cells cs 42 f) → w2.heap[k]? = some (.cells cs 42 f) := by
  obtain ⟨he, v2, hD, hv2, f2⟩ := h2
  obtain ⟨cs0, hc0⟩ := h.st.heap
  obtain ⟨cs1, hc1⟩ := h1.heap
  have hD1 : DocSt w1 base mb v H := h.doc.fr f1 (fun e => type_ne h.doc.mbk hc0 (by decide) e) (fun g hg e => own_ne h.doc.own hc0 (by decide) g hg e)
  have hbw : base ≤ w.heap.size := Nat.le_trans h.h1 (Nat.le_of_lt h.st.lt)
  have hS2 : St w2 sb H2 := h1.frS f2 (by
    rintro (e | e)
    · exact type_ne hc1 hD1.mbk (by decide) e
    · exact own_ne hD1.own hc1 (by decide) sb e rfl)
  refine ⟨he, v2, ⟨hS2, hD, h.h1⟩, ?_, ?_, ?_⟩
  · refine (f1.only h.h1 hbw).trans ⟨f2.os, f2.tape, f2.output, f2.size, fun k hk => f2.block k (by have := f1.size; omega) ?_⟩
    rintro (e | e)
    · have := h.doc.h1; omega
    · have := (h.doc.own.lt k e).1; omega
  · intro n o hL sb' mb' ho
    obtain ⟨v', H', q1, q2, q3⟩ := hL sb' mb' ho
    obtain ⟨cs', hc'⟩ := q2.st.heap
    have g1 : St w1 sb' H' := q2.st.fr f1 (fun e => q3.s e.symm)
    have g2 : DocSt w1 base mb' v' H' := q2.doc.fr f1 (fun e => type_ne q2.doc.mbk hc0 (by decide) e) (fun g hg e => own_ne q2.doc.own hc0 (by decide) g hg e)
    obtain ⟨cs1', hc1'⟩ := g1.heap
    refine ⟨v', H', q1, ⟨g1.frS f2 ?_, g2.fr f2 ?_ ?_, q2.h1⟩, q3.s, q3.m, ?_⟩
    · rintro (e | e)
      · exact type_ne hc1' hD1.mbk (by decide) e
      · exact own_ne hD1.own hc1' (by decide) sb' e rfl
    · rintro (e | e)
      · exact q3.m e.symm
      · exact own_ne hD1.own g2.mbk (by decide) mb' e rfl
    · intro g hg
      rintro (e | e)
      · exact own_ne g2.own hD1.mbk (by decide) g hg e
      · exact q3.o g e hg
    · intro g hg hg'
      rcases hv2 with hv2 | ⟨g0, hg0, hlt⟩
      · rw [hv2] at hg; exact q3.o g hg hg'
      · rw [hg0] at hg
        cases hg
        have := (g2.own.lt _ hg').2
        omega
  · intro k cs f hk
    have hk1 : w1.heap[k]? = some (.cells cs 42 f) := (f1.block k (lt_of_heap hk) (fun e => type_ne hk hc0 (by decide) e)).trans hk
    refine (f2.block k (lt_of_heap hk1) ?_).trans hk1
    rintro (e | e)
    · exact type_ne hk1 hD1.mbk (by decide) e
    · exact own_ne hD1.own hk1 (by decide) k e rfl
/-- a copy of both -/
theorem pr_copy {w w1 w2 : World} {base sb sn mb : Nat} {v v' : Value} {H : List (List UInt8)} {n : Nat} (hn : H.length ≤ n) (h : Pr w base sb mb v H) (hs : sn = w.heap.size) (h1 : St w1 sn H) (b1 : Below w.heap.size w w1)
    (hown : w2.ownsRow base 22 1 v' H.length (H.map strV)) (b2 : Below w1.heap.size w1 w2) (hat : v'.ownBlock = none ∨ v'.ownBlock = some w1.heap.size) :
    Pr (w2.alloc (.cells #[v'] 40)) base sn w2.heap.size v' H ∧ Below w.heap.size w (w2.alloc (.cells #[v'] 40)) ∧ Lft (w2.alloc (.cells #[v'] 40)) base sn w2.heap.size v' n (some (sb, mb)) := by
  have hbw : base ≤ w.heap.size := Nat.le_trans h.h1 (Nat.le_of_lt h.st.lt)
  have b12 := b1.trans (b2.mono b1.size)
  have b3 : Below w2.heap.size w2 (w2.alloc (.cells #[v'] 40)) := (Below.refl _ _).alloc (Nat.le_refl _) _
  have b123 := b12.trans (b3.mono b12.size)
  refine ⟨⟨(h1.below b2).below b3, ⟨heap_alloc_at _ _, own_below hown b3, ?_⟩, by omega⟩, b123, ?_⟩
  · have := b12.size; omega
  · intro sb' mb' ho
    cases ho
    refine ⟨v, H, hn, h.below b123, ?_, ?_, ?_⟩
    · have := h.st.lt; omega
    · have := lt_of_heap h.doc.mbk
      have := b12.size; omega
    · intro g hg hg'
      have := (h.doc.own.lt g hg').2
      rcases hat with hat | hat
      · rw [hat] at hg; cases hg
      · rw [hat] at hg
        cases hg
        have := b1.size; omega
theorem pr_swap {w : World} {base sb mb sb' mb' : Nat} {v : Value} {H : List (List UInt8)} {n : Nat} (hn : H.length ≤ n) (h : Pr w base sb mb v H) (hL : Lft w base sb mb v n (some (sb', mb'))) :
    ∃ v' H', H'.length ≤ n ∧ Pr w base sb' mb' v' H' ∧ Lft w base sb' mb' v' n (some (sb, mb)) := by
  obtain ⟨v', H', q1, q2, q3⟩ := hL sb' mb' rfl
  refine ⟨v', H', q1, q2, fun a b ho => ?_⟩
  cases ho
  exact ⟨v, H, hn, h, q3.symm⟩
end Go.Proofs.YtnaodgljdbkmnaaDoor
