/- wire: the program's Decode -/
import Derived.Calls
import Derived.WalkKit
import Derived.WalkSpells
import Derived.WalkLawsBesides
import Derived.Handy
import Derived.Lib.Hide
import Derived.Deep.AppendLies
import Derived.Deep.LoopGhost
import Derived.Outline
import Derived.Laws.BitsAllLaws
import Derived.Laws.BitsLemmas
import Derived.Lib.AppendZeros
import Derived.Lib.AppendZerosOnto
import Derived.Maps.AppendAt
import Derived.Laws.Append
import Derived.Laws.AppendOwn
import Derived.Deep.QuietTactic
import Derived.BigQuiet
import Derived.Deep.RegionHeld3
import Derived.Lib.ConvBytes
import Derived.Laws.BytesArg
import Derived.Lib.ParseIntB
import Derived.Lib.Bytealg
import Derived.Shelf.Small.Strs
import Derived.Shelf.Strconv.Itoa0
import Derived.Shelf.Strconv.ParseIntEmpty
import Derived.Shelf.LaysM
import Derived.Shelf.Strconv.Clone
import Derived.Shelf.Strconv.SyntaxError
import Derived.Shelf.LaysC
import Derived.Shelf.Strconv.ToError
import Derived.Shelf.Strconv.Lower
import Derived.Shelf.Strconv.ParseUint10
import Derived.Shelf.Strconv.ParseUint10Empty
import Derived.Shelf.Strconv.ParseUint10Any
import Derived.Shelf.Strconv.ParseInt10
import Derived.Shelf.Strconv.RangeError
import Derived.Shelf.Strconv.ToErrorRange
import Derived.Shelf.Strconv.ParseUintEmpty
import Derived.Shelf.Strconv.ParseUint10b64
import Derived.Shelf.Strconv.ParseUint10b32
import Derived.Shelf.Strconv.ParseUint10b16
import Derived.Shelf.Strconv.ParseUint10b8
import Derived.Shelf.Strconv.ParseUint10At
import Derived.Shelf.Strconv.ParseInt10At64
import Derived.Shelf.Strconv.ParseInt10At32
import Derived.Shelf.Strconv.ParseInt10At16
import Derived.Shelf.Strconv.ParseInt10At8
import Derived.Shelf.Strconv.ParseInt10All
import Derived.Shelf.Strconv.ParseIntPublic10
import Derived.Shelf.Strconv.ErrVarParseInt
import Derived.Shelf.Strings.Search1
import Derived.Lib.Strings
import Derived.Lib.IndexBytes
import Derived.BigRegion
import Derived.Deep.RegionLaw
import Derived.Deep.Onto
import Derived.Deep.WholeRow
import Derived.Deep.CutRange
import Derived.Laws.CopyOwn
import Derived.Below
import Derived.WalkMore
import Derived.MapKept
import Derived.Carry
import Derived.Lib.AppendStr
import Derived.Deep.CutBlock
import Derived.Test.YtakfhoodjcfpcaaDoorRows
import Derived.Test.YtakfhoodjcfpcaaDoorProg
import Derived.Test.YtakfhoodjcfpcaaDoorPl
import Derived.Test.YtakfhoodjcfpcaaDoorTlA
import Derived.Test.YtakfhoodjcfpcaaDoorTlD
import Derived.Test.YtakfhoodjcfpcaaDoorTlF
import Derived.Test.YtakfhoodjcfpcaaDoorTlG
import Derived.Test.YtakfhoodjcfpcaaDoorTlH
import Derived.Test.YtakfhoodjcfpcaaDoorTlI
import Derived.Test.YtakfhoodjcfpcaaDoorTlJ
import Derived.Test.YtakfhoodjcfpcaaDoorTlP
import Derived.Test.YtakfhoodjcfpcaaDoorTlR
import Derived.Test.YtakfhoodjcfpcaaDoorTlU
import Derived.Test.YtakfhoodjcfpcaaDoorNumA
import Derived.Test.YtakfhoodjcfpcaaDoorNumB
import Derived.Test.YtakfhoodjcfpcaaDoorNumC
import Derived.Test.YtakfhoodjcfpcaaDoorTa
import Derived.Test.YtakfhoodjcfpcaaDoorRefG
import Derived.Test.YtakfhoodjcfpcaaDoorWirP
import Derived.Test.YtakfhoodjcfpcaaDoorWrA
import Derived.Test.YtakfhoodjcfpcaaDoorWrD
import Derived.Test.YtakfhoodjcfpcaaDoorWrE
import Derived.Test.YtakfhoodjcfpcaaDoorWrF
import Derived.Test.YtakfhoodjcfpcaaDoorWrH
import Derived.Test.YtakfhoodjcfpcaaDoorWrI
namespace Go.Proofs.YtakfhoodjcfpcaaDoor.T
set_option linter.unusedVariables false
set_option maxRecDepth 100000
open Go.RowKit Tlv Wire
/-! wire: Decode -/
theorem MC.fr {S : Nat → Prop} {w w' : World} {mb : Nat} {cs : Array Value} (h : MC w mb cs) (hf : Fr S w w') (hs : ¬ S mb) : MC w' mb cs := (hf.block mb (lt_of_heap h) hs).trans h
theorem Fr.weak' {S T : Nat → Prop} {a b : World} (h : Fr S a b) (hst : ∀ k, S k → T k) : Fr T a b := h.weak (fun k _ hk => hst k hk)
def OwnN (w : World) (base : Nat) (v : Value) (L : List Int) : Prop := w.ownsRow base 2 1 v L.length (L.map (Value.int .i64))
def OwnT (w : World) (base : Nat) (v : Value) (L : List ByteArray) : Prop := w.ownsRow base 49 1 v L.length (L.map Value.string)
theorem Tryd.info2 : (Tryd.prog.info? 2).map (fun i => (i.zero, i.size, i.bytes)) = some (some (.int .i64 0), 1, 8) := by kernel_rfl
theorem own_fr {S : Nat → Prop} {w w' : World} {base E size n : Nat} {v : Value} {xs : List Value} (h : w.ownsRow base E size v n xs) (hf : Fr S w w') (hS : ∀ k, S k → k < base) : w'.ownsRow base E size v n xs :=
  ownsRow_blocks h (fun g hg => hf.block g (h.lt g hg).2 (fun hs => by have := (h.lt g hg).1; have := hS g hs; omega))
theorem own_at {w w' : World} {rb base E size n : Nat} {v : Value} {xs : List Value} (h : w.ownsRow base E size v n xs) (hf : Fr (At rb) w w') (hlt : rb < base) : w'.ownsRow base E size v n xs := own_fr h hf (fun k hk => by unfold At at hk; omega)
theorem MC.grown {w w' : World} {mb : Nat} {cs : Array Value} {row : Option Nat} (h : MC w mb cs) (hg : w.grownBy w' row) (hr : row ≠ some mb) : MC w' mb cs := (hg.block mb (lt_of_heap h) (fun e => hr e.symm)).trans h
theorem own_ne {w : World} {base E size n mb : Nat} {v : Value} {xs : List Value} (h : w.ownsRow base E size v n xs) (hb : mb < base) : v.ownBlock ≠ some mb := fun e => by have := (h.lt mb e).1; omega
theorem fr_grown {S : Nat → Prop} {a b : World} {row : Option Nat} (hg : a.grownBy b row) (hr : ∀ g, row = some g → S g) : Fr S a b := ⟨hg.os, hg.tape, hg.output, hg.size, fun k hk hn => hg.block k hk (fun e => hn (hr k e.symm))⟩
theorem fr_over {S T : Nat → Prop} {a b c : World} (h : Fr T a b) (k : Fr S b c) (hs : ∀ i, i < a.heap.size → S i → T i) : Fr T a c :=
  ⟨k.os.trans h.os, k.tape.trans h.tape, k.output.trans h.output, Nat.le_trans h.size k.size, fun i hi hn => (k.block i (Nat.lt_of_lt_of_le hi h.size) (fun s => hn (hs i hi s))).trans (h.block i hi hn)⟩
theorem app_mc {w4 w5 : World} {mb B E size n : Nat} {v : Value} {xs : List Value} {W : World} {c0 c1 c2 c3 c4 c5 : Value} (hW : Below w4.heap.size w4 W) (hm : MC w4 mb #[c0, c1, c2, c3, c4, c5]) (h : w4.ownsRow B E size v n xs) (hB : mb < B) (hg : W.grownBy w5 v.ownBlock) :
    MC w5 mb #[c0, c1, c2, c3, c4, c5] ∧ w5.cell? ⟨mb, 2, none⟩ = some c2 ∧ w5.cell? ⟨mb, 3, none⟩ = some c3 ∧ w5.frozen? ⟨mb, 2, none⟩ = false ∧ w5.frozen? ⟨mb, 3, none⟩ = false := by
  have h5 : MC w5 mb #[c0, c1, c2, c3, c4, c5] := (hm.later hW).grown hg (own_ne h hB)
  exact ⟨h5, h5.cells.2.2.1, h5.cells.2.2.2.1, frozen_of_row _ _ _ _ _ h5, frozen_of_row _ _ _ _ _ h5⟩
/-- what a round leaves: the row has one more, the message holds it -/
theorem dec_round {w w3 w4 W w5 : World} {rb mb E size n n' : Nat} {v v' : Value} {xs xs' : List Value} {q : St} {c0 c1 c2 c3 c4 c5 : Value} (hlt : rb < mb) (hB : mb < w3.heap.size) (hR : RSt w w4 rb q) (hF : Fr (Two rb mb) w3 w4) (ho : w4.ownsRow w3.heap.size E size v n xs) (hW : Below w4.heap.size w4 W) (hg : W.grownBy w5 v.ownBlock)
    (ho5 : w5.ownsRow w3.heap.size E size v' n' xs') (hm5 : MC w5 mb #[c0, c1, c2, c3, c4, c5]) (x : Value) :
    (∀ k, RSt w (w5.setCell ⟨mb, k, none⟩ x) rb q ∧ Fr (Two rb mb) w3 (w5.setCell ⟨mb, k, none⟩ x) ∧ (w5.setCell ⟨mb, k, none⟩ x).ownsRow w3.heap.size E size v' n' xs' ∧ ∀ (b E2 s2 n2 : Nat) (v2 : Value) (x2 : List Value), mb < b → b ≤ w3.heap.size → (∀ g, v2.ownBlock = some g → g < w3.heap.size) → w4.ownsRow b E2 s2 v2 n2 x2 → (w5.setCell ⟨mb, k, none⟩ x).ownsRow b E2 s2 v2 n2 x2) ∧
    MC (w5.setCell ⟨mb, 2, none⟩ x) mb #[c0, c1, x, c3, c4, c5] ∧ MC (w5.setCell ⟨mb, 3, none⟩ x) mb #[c0, c1, c2, x, c4, c5] := by
  have hf : ∀ k, Fr (fun i => i = mb ∨ w3.heap.size ≤ i) w4 (w5.setCell ⟨mb, k, none⟩ x) := fun k => ((Fr.below hW).trans (fr_grown hg (fun g e => .inr (ho.lt g e).1))).set _ _ _ (.inl rfl)
  have hrb : w.heap.size ≤ rb := by obtain ⟨_, _, h⟩ := hR; exact h.base
  refine ⟨fun k => ⟨hR.fr (hf k) (by omega) (fun i hi => by omega), fr_over hF (hf k) (fun i hi hs => .inr (by omega)), ?_, ?_⟩, ?_, ?_⟩
  · exact ownsRow_blocks ho5 (fun g hg' => Below.heap_setCell _ _ _ _ (fun e => by have := (ho5.lt g hg').1; subst e; omega))
  · intro b E2 s2 n2 v2 x2 h1 h2 h3 h4
    exact ownsRow_blocks h4 (fun g hg' => (hf k).block g (h4.lt g hg').2 (by have := (h4.lt g hg').1; have := h3 g hg'; omega))
  · show (w5.setCell _ _).heap[mb]? = _
    rw [heap_setCell_same _ _ _ _ _ _ hm5]; rfl
  · show (w5.setCell _ _).heap[mb]? = _
    rw [heap_setCell_same _ _ _ _ _ _ hm5]; rfl
theorem u64_nat (n : Nat) (h : n < 18446744073709551616) : IntKind.u64.wrap (n : Int) = (n : Int) := by
  unfold IntKind.wrap
  have e1 : (2 : Int) ^ IntKind.u64.bits = 18446744073709551616 := by decide
  simp [IntKind.signed, e1]
  omega
theorem countS_lt (c : Bool) (s : St) : (countS c s).1 < 18446744073709551616 := by
  unfold countS
  split
  · show 0 < 18446744073709551616; omega
  · rename_i h
    exact (get_size s.l (Decidable.byContradiction fun k => h (.inr k))).2.2
theorem ownN_snoc {w : World} {B : Nat} {v : Value} {L : List Int} {z : Int} (h : w.ownsRow B 2 1 v (L.length + 1) (L.map (Value.int .i64) ++ [.int .i64 z])) : OwnN w B v (L ++ [z]) := by
  unfold OwnN
  rw [List.length_append, List.map_append]
  exact h
theorem ownT_snoc {w : World} {B : Nat} {v : Value} {L : List ByteArray} {z : ByteArray} (h : w.ownsRow B 49 1 v (L.length + 1) (L.map Value.string ++ [.string z])) : OwnT w B v (L ++ [z]) := by
  unfold OwnT
  rw [List.length_append, List.map_append]
  exact h
theorem nums_next {n n3 : Nat} {q q3 : St} {L : List Int} (h : numsS n3 q3 = (L ++ (numsS (n + 1) q).1, (numsS (n + 1) q).2)) (hb : q.bad = false) : numsS n3 q3 = ((L ++ [i64 (numS 8 q).1]) ++ (numsS n (numS 8 q).2).1, (numsS n (numS 8 q).2).2) := by
  rw [h, numsS, if_neg (by rw [hb]; decide)]
  simp
theorem nums_end {n n3 : Nat} {q q3 : St} {L : List Int} (h : numsS n3 q3 = (L ++ (numsS n q).1, (numsS n q).2)) (hb : n = 0 ∨ q.bad = true) : numsS n3 q3 = (L, q) := by
  rw [h]
  cases n with
  | zero => simp [numsS]
  | succ n =>
    have hb : q.bad = true := by rcases hb with h | h; omega; exact h
    rw [numsS, if_pos hb]
    simp
theorem nums_left {q : St} {L : List Int} {B : Nat} (x : Int) (hb : q.bad = false) (h1 : L.length + q.l.length ≤ B) : (L ++ [x]).length ≤ B + 1 ∧ ((numS 8 q).2.bad = false → (L ++ [x]).length + (numS 8 q).2.l.length ≤ B) := by
  rw [List.length_append, List.length_singleton]
  refine ⟨by omega, fun h => ?_⟩
  unfold numS takeS at h ⊢
  by_cases hc : q.bad = true ∨ q.l.length < 8
  · rw [if_pos hc] at h; cases h
  · rw [if_neg hc] at h ⊢
    show L.length + 1 + (q.l.drop 8).length ≤ B
    rw [List.length_drop]
    omega
theorem takeS_le (n : Nat) (s : St) : (takeS n s).2.l.length ≤ s.l.length := by
  unfold takeS
  split
  · exact Nat.le_refl _
  · show (s.l.drop n).length ≤ _
    rw [List.length_drop]; omega
theorem countS_le (c : Bool) (s : St) : (countS c s).2.l.length ≤ s.l.length := by
  unfold countS
  split
  · exact Nat.le_refl _
  · show (s.l.drop _).length ≤ _
    rw [List.length_drop]; omega
theorem textS_len (c : Bool) (s : St) : (textS c s).2.l.length ≤ s.l.length := Nat.le_trans (takeS_le _ _) (countS_le c s)
theorem numS_le (m : Nat) (s : St) : (numS m s).2.l.length ≤ s.l.length := takeS_le _ _
theorem numsS_le : ∀ (n : Nat) (s : St), (numsS n s).2.l.length ≤ s.l.length
  | 0, s => Nat.le_refl _
  | n + 1, s => by
    rw [numsS]
    split
    · exact Nat.le_refl _
    · exact Nat.le_trans (numsS_le n _) (numS_le 8 s)
theorem terms_next {n n3 : Nat} {q q3 : St} {L : List ByteArray} (h : termsS false n3 q3 = (L ++ (termsS false (n + 1) q).1, (termsS false (n + 1) q).2)) (hb : q.bad = false) : termsS false n3 q3 = ((L ++ [ba (textS false q).1]) ++ (termsS false n (textS false q).2).1, (termsS false n (textS false q).2).2) := by
  rw [h, termsS, if_neg (by rw [hb]; decide)]
  simp
theorem terms_end {n n3 : Nat} {q q3 : St} {L : List ByteArray} (h : termsS false n3 q3 = (L ++ (termsS false n q).1, (termsS false n q).2)) (hb : n = 0 ∨ q.bad = true) : termsS false n3 q3 = (L, q) := by
  rw [h]
  cases n with
  | zero => simp [termsS]
  | succ n =>
    have hb : q.bad = true := by rcases hb with h | h; omega; exact h
    rw [termsS, if_pos hb]
    simp
theorem terms_left {q : St} {L : List ByteArray} {B : Nat} (x : ByteArray) (hb : q.bad = false) (h1 : L.length + q.l.length ≤ B) : (L ++ [x]).length ≤ B + 1 ∧ ((textS false q).2.bad = false → (L ++ [x]).length + (textS false q).2.l.length ≤ B) := by
  rw [List.length_append, List.length_singleton]
  refine ⟨by omega, fun h => ?_⟩
  unfold textS at h ⊢
  have h2 := takeS_le (countS false q).1 (countS false q).2
  by_cases hg : (getN q.l).2.2 = 0
  · obtain ⟨k1, k2, _⟩ := get_size q.l hg
    have e : (countS false q).2.l = q.l.drop (getN q.l).2.1 := by unfold countS; rw [if_neg (by rintro (h | h); cases h; exact h hg)]
    rw [e, List.length_drop] at h2
    omega
  · have e : countS false q = (0, ⟨q.l, true⟩) := by unfold countS; rw [if_pos (.inr hg)]
    rw [e] at h
    have := take_bad 0 ⟨q.l, true⟩ rfl
    dsimp only at h
    rw [this] at h; cases h
theorem OwnRecs.keep {w w' : World} {base : Nat} {v : Value} {L : List Rec} (h : OwnRecs w base v L) (hk : ∀ g, base ≤ g → g < w.heap.size → w'.heap[g]? = w.heap[g]?) : OwnRecs w' base v L := by
  obtain ⟨bs, h1, h2, h3⟩ := h
  refine ⟨bs, h1, ownsRow_blocks h2 (fun g hg => hk g (h2.lt g hg).1 (h2.lt g hg).2), fun i r x hr hx => ?_⟩
  obtain ⟨k1, k2⟩ := h3 i r x hr hx
  exact ⟨ownsRow_blocks k1 (fun g hg => hk g (k1.lt g hg).1 (k1.lt g hg).2), k2⟩
theorem own_base {w : World} {base b E size n : Nat} {v : Value} {xs : List Value} (h : w.ownsRow base E size v n xs) (hb : b ≤ base) : w.ownsRow b E size v n xs := by
  refine ⟨h.1, ?_⟩
  rcases h.2 with h0 | ⟨g, cap, cur, hv, hg, hr⟩
  · exact .inl h0
  · exact .inr ⟨g, cap, cur, hv, Nat.le_trans hb hg, hr⟩
theorem OwnRecs.base {w : World} {base b : Nat} {v : Value} {L : List Rec} (h : OwnRecs w base v L) (hb : b ≤ base) : OwnRecs w b v L := by
  obtain ⟨bs, h1, h2, h3⟩ := h
  exact ⟨bs, h1, own_base h2 hb, fun i r x hr hx => ⟨own_base (h3 i r x hr hx).1 hb, (h3 i r x hr hx).2⟩⟩
theorem row_cells {α : Type} {w : World} {base E n : Nat} {a : Option Addr} {c : Nat} (f : α → Value) {L : List α} (h : w.ownsRow base E 1 (.slice a n c) L.length (L.map f)) : L = [] ∨ ∃ b off, a = some ⟨b, off, none⟩ ∧ ∀ (k : Nat) (x : α), L[k]? = some x → w.cell? ⟨b, off + k, none⟩ = some (f x) := by
  rcases h.2 with ⟨h0, hl⟩ | ⟨g, cap, cur, hv, hg, hh, hc, hm, hs, ht⟩
  · exact .inl (List.eq_nil_of_length_eq_zero hl)
  · cases hv
    refine .inr ⟨g, 0, rfl, fun k c hk => ?_⟩
    rw [Nat.zero_add, cell_of_row w g _ _ _ _ hh]
    have hkl : k < L.length := (List.getElem?_eq_some_iff.1 hk).1
    have h1 : (cur.toList.take (L.length * 1))[k]? = (L.map f)[k]? := by rw [ht]
    rw [List.getElem?_take, if_pos (by omega), Array.getElem?_toList, List.getElem?_map, hk] at h1
    exact h1
theorem ints_own {w : World} {base : Nat} {a : Option Addr} {c : Nat} {L : List Int} (h : OwnN w base (.slice a L.length c) L) : Ints w a L := row_cells (Value.int .i64) h
theorem strs_own {w : World} {base : Nat} {a : Option Addr} {c : Nat} {L : List ByteArray} (h : OwnT w base (.slice a L.length c) L) : Strs w a L := row_cells Value.string h
theorem recs_bound (b : List UInt8) : (recordsN b).1.length ≤ 64 ∧ bodies (recordsN b).1 ≤ b.length ∧ ∀ r ∈ (recordsN b).1, r.t < 18446744073709551616 := by
  by_cases h : (recordsN b).2 = 0
  · obtain ⟨h1, h2⟩ := stream_records b h
    generalize (recordsN b).1 = L at h1 h2
    unfold streamN at h1
    split at h1
    · cases h1
    · split at h1
      · cases h1
      · split at h1
        · cases h1
        · simp only [Prod.mk.injEq, and_true] at h1
          have := (encAll_len L).1
          rw [h1] at this
          exact ⟨by omega, this, h2⟩
  · rw [records_none b h]
    exact ⟨Nat.zero_le _, Nat.zero_le _, fun r hr => by cases hr⟩
theorem takeS_out (n : Nat) (s : St) : (takeS n s).1.length ≤ s.l.length := by
  unfold takeS
  split
  · exact Nat.zero_le _
  · show (s.l.take n).length ≤ _
    rw [List.length_take]; omega
theorem textS_out (c : Bool) (s : St) : (textS c s).1.length ≤ s.l.length := Nat.le_trans (takeS_out _ _) (countS_le c s)
theorem numsS_many : ∀ (n : Nat) (s : St), (numsS n s).1.length ≤ s.l.length + 1
  | 0, s => Nat.zero_le _
  | n + 1, s => by
    rw [numsS]
    cases hb : s.bad with
    | true => rw [if_pos rfl]; exact Nat.zero_le _
    | false =>
      rw [if_neg (by decide)]
      have h1 := nums_left (q := s) (L := []) (B := s.l.length) 0 hb (by simp)
      show (numsS n (numS 8 s).2).1.length + 1 ≤ _
      cases hb2 : (numS 8 s).2.bad with
      | true =>
        have : (numsS n (numS 8 s).2).1 = [] := by cases n with
          | zero => rfl
          | succ n => rw [numsS, if_pos hb2]
        rw [this]; exact Nat.succ_le_succ (Nat.zero_le _)
      | false =>
        have h2 := h1.2 hb2
        have h3 := numsS_many n (numS 8 s).2
        simp only [List.nil_append, List.length_singleton] at h2
        omega
theorem termsS_many : ∀ (n : Nat) (s : St), (termsS false n s).1.length ≤ s.l.length + 1
  | 0, s => Nat.zero_le _
  | n + 1, s => by
    rw [termsS]
    cases hb : s.bad with
    | true => rw [if_pos rfl]; exact Nat.zero_le _
    | false =>
      rw [if_neg (by decide)]
      have h1 := terms_left (q := s) (L := []) (B := s.l.length) ⟨#[]⟩ hb (by simp)
      show (termsS false n (textS false s).2).1.length + 1 ≤ _
      cases hb2 : (textS false s).2.bad with
      | true =>
        have : (termsS false n (textS false s).2).1 = [] := by cases n with
          | zero => rfl
          | succ n => rw [termsS, if_pos hb2]
        rw [this]; exact Nat.succ_le_succ (Nat.zero_le _)
      | false =>
        have h2 := h1.2 hb2
        have h3 := termsS_many n (textS false s).2
        simp only [List.nil_append, List.length_singleton] at h2
        omega
theorem termsS_le : ∀ (n : Nat) (s : St), (termsS false n s).2.l.length ≤ s.l.length
  | 0, s => Nat.le_refl _
  | n + 1, s => by
    rw [termsS]
    split
    · exact Nat.le_refl _
    · exact Nat.le_trans (termsS_le n _) (textS_len false s)
theorem termsS_out : ∀ (n : Nat) (s : St), ∀ t ∈ (termsS false n s).1, t.size ≤ s.l.length
  | 0, s, t, h => by cases h
  | n + 1, s, t, h => by
    rw [termsS] at h
    split at h
    · cases h
    · rcases List.mem_cons.1 h with rfl | h
      · rw [ba_size]; exact textS_out false s
      · exact Nat.le_trans (termsS_out n _ t h) (textS_len false s)
theorem mb_dec (l : List UInt8) (hl : l.length ≤ 32768) {n1 n3 n5 : Nat} {c2 x7 : List UInt8} {N4 : List Int} {T6 : List ByteArray} {q1 q2 q3 q4 q5 q6 q7 : St} (e1 : numS 2 ⟨l, false⟩ = (n1, q1)) (e2 : textS false q1 = (c2, q2)) (e3 : countS false q2 = (n3, q3)) (e4 : numsS n3 q3 = (N4, q4)) (e5 : countS false q4 = (n5, q5)) (e6 : termsS false n5 q5 = (T6, q6)) (e7 : textS false q6 = (x7, q7)) :
    MB ⟨n1, ba c2, N4, T6, ba x7, (recordsN q7.l).1⟩ ∧ bodies (recordsN q7.l).1 ≤ l.length := by
  have k1 := numS_le 2 ⟨l, false⟩
  have k2 := textS_len false q1
  have j2 := textS_out false q1
  have k3 := countS_le false q2
  have k4 := numsS_le n3 q3
  have j4 := numsS_many n3 q3
  have k5 := countS_le false q4
  have k6 := termsS_le n5 q5
  have j6 := termsS_many n5 q5
  have i6 := termsS_out n5 q5
  have k7 := textS_len false q6
  have j7 := textS_out false q6
  rw [e1] at k1; rw [e2] at k2 j2; rw [e3] at k3; rw [e4] at k4 j4; rw [e5] at k5; rw [e6] at k6 j6 i6; rw [e7] at k7 j7
  dsimp only at k1 k2 j2 k3 k4 j4 k5 k6 j6 i6 k7 j7
  obtain ⟨r1, r2, r3⟩ := recs_bound q7.l
  refine ⟨⟨?_, ?_, ?_, ?_, ?_, ?_, r3, ?_⟩, by omega⟩
  · show (ba c2).size ≤ _; rw [ba_size]; omega
  · show (ba x7).size ≤ _; rw [ba_size]; omega
  · show N4.length ≤ _; omega
  · show T6.length ≤ _; omega
  · intro t ht; have := i6 t ht; omega
  · show (recordsN q7.l).1.length ≤ _; omega
  · intro r hr; have := body_le (L := (recordsN q7.l).1) hr; omega
/-- a message in memory of its own -/
structure OwnM (w : World) (base : Nat) (m : Wire.Msg) (nv tv rv : Value) : Prop where
  nums : OwnN w base nv m.nums
  terms : OwnT w base tv m.terms
  more : OwnRecs w base rv m.more
def DecPost (o : Wire.Msg × Nat) (w : World) (e : Ending) (w' : World) : Prop := ∃ nv tv rv, e = .returned (.tuple #[.agg #[.int .u16 (o.1.kind : Int), .string o.1.chan, nv, tv, .string o.1.text, rv], .int .i64 (o.2 : Int)]) ∧ OwnM w' w.heap.size o.1 nv tv rv ∧ Below w.heap.size w w'
theorem ownM_no (w : World) (base : Nat) : OwnM w base no (.slice none 0 0) (.slice none 0 0) (.slice none 0 0) := ⟨World.ownsRow_nil _ _ _ _, World.ownsRow_nil _ _ _ _, ownRecs_nil _ _⟩
theorem dec_no_post {l : List UInt8} {k : Nat} {w w' : World} (h : Wire.decN R false l = (no, k)) (hb : Below w.heap.size w w') : DecPost (Wire.decN R false l) w (.returned (.tuple #[.agg #[.int .u16 0, .string ⟨#[]⟩, .slice none 0 0, .slice none 0 0, .string ⟨#[]⟩, .slice none 0 0], .int .i64 (k : Int)])) w' := by
  rw [h]
  exact ⟨_, _, _, rfl, ownM_no _ _, hb⟩
set_option maxHeartbeats 4000000 in
theorem decode_big (a : Option Addr) (c : Nat) (l : List UInt8) (w : World) (hl : 32768 < l.length) (hc : l.length ≤ c) (hm : c ≤ maxLen) : Calls Tryd.prog 16 #[.slice a l.length c] w (DecPost (Wire.decN R false l) w) := by
  have hD : Wire.decN R false l = (no, 3) := by unfold Wire.decN; rw [if_pos hl]
  have hli : (32768 : Int) < (l.length : Int) := by omega
  unfold maxLen at hm
  obtain ⟨D, hDD⟩ : ∃ D, Wire.decN R false l = D := ⟨_, rfl⟩
  have HD := Lib.hid hD
  rw [hDD]
  have HDD := Lib.hid hDD
  clear hD hDD
  go_enter Tryd.func16, Tryd.ntmps16
  go_wp2_with fail
  refine bodyPost_ret (v := .tuple #[.agg #[.int .u16 0, .string ⟨#[]⟩, .slice none 0 0, .slice none 0 0, .string ⟨#[]⟩, .slice none 0 0], .int .i64 3]) (by simp [results, Tryd.results16, go_sem]) rfl ?_
  rw [← HDD.out]
  exact dec_no_post HD.out (below_new w _)
/-- what a reader's steps leave -/
theorem dec_form (l : List UInt8) (hl : l.length ≤ 32768) {n1 n3 n5 : Nat} {c2 x7 : List UInt8} {N4 : List Int} {T6 : List ByteArray} {q1 q2 q3 q4 q5 q6 q7 : St} (e1 : numS 2 ⟨l, false⟩ = (n1, q1)) (e2 : textS false q1 = (c2, q2)) (e3 : countS false q2 = (n3, q3)) (e4 : numsS n3 q3 = (N4, q4)) (e5 : countS false q4 = (n5, q5)) (e6 : termsS false n5 q5 = (T6, q6)) (e7 : textS false q6 = (x7, q7)) :
    Wire.decN R false l = if q7.bad = true ∨ (recordsN q7.l).2 ≠ 0 ∨ mayN R ⟨n1, ba c2, N4, T6, ba x7, (recordsN q7.l).1⟩ = false then (no, 80) else (⟨n1, ba c2, N4, T6, ba x7, (recordsN q7.l).1⟩, 0) := by
  unfold Wire.decN
  rw [if_neg (by omega)]
  simp only [decM, s7, s6, s5, s4, s3, s2, s1, e1, e2, e3, e4, e5, e6, e7]
theorem num2_lt {s q : St} {n : Nat} (h : numS 2 s = (n, q)) : n < 65536 := by
  have h1 : n = (numS 2 s).1 := by rw [h]
  rw [h1]
  unfold numS
  have h2 := val_lt (takeS 2 s).1
  have h3 := take_eq 2 s
  have h4 : 256 ^ (takeS 2 s).1.length ≤ 256 ^ 2 := Nat.pow_le_pow_right (by decide) h3
  show val (takeS 2 s).1 < 65536
  omega
set_option maxHeartbeats 8000000 in
theorem decode_few (a : Option Addr) (c : Nat) (l : List UInt8) (w : World) (hl : l.length ≤ 32768) (hc : l.length ≤ c) (hm : c ≤ maxLen) (hs : Src w a l) (hn : a = none → c = 0) (hL : LibOk w) : Calls Tryd.prog 16 #[.slice a l.length c] w (DecPost (Wire.decN R false l) w) := by
  have hli : (l.length : Int) ≤ 32768 := by omega
  obtain ⟨n1, q1, e1⟩ : ∃ n q, numS 2 ⟨l, false⟩ = (n, q) := ⟨_, _, rfl⟩
  obtain ⟨c2, q2, e2⟩ : ∃ n q, textS false q1 = (n, q) := ⟨_, _, rfl⟩
  obtain ⟨n3, q3, e3⟩ : ∃ n q, countS false q2 = (n, q) := ⟨_, _, rfl⟩
  obtain ⟨N4, q4, e4⟩ : ∃ n q, numsS n3 q3 = (n, q) := ⟨_, _, rfl⟩
  obtain ⟨n5, q5, e5⟩ : ∃ n q, countS false q4 = (n, q) := ⟨_, _, rfl⟩
  obtain ⟨T6, q6, e6⟩ : ∃ n q, termsS false n5 q5 = (n, q) := ⟨_, _, rfl⟩
  obtain ⟨x7, q7, e7⟩ : ∃ n q, textS false q6 = (n, q) := ⟨_, _, rfl⟩
  have HD := Lib.hid (dec_form l hl e1 e2 e3 e4 e5 e6 e7)
  obtain ⟨D, hDD⟩ : ∃ D, Wire.decN R false l = D := ⟨_, rfl⟩
  rw [hDD] at HD ⊢
  have HQ3 : Hid (q3.l.length ≤ l.length) := by
    show _ ≤ _
    have h1 := numS_le 2 ⟨l, false⟩
    rw [e1] at h1
    have h2 := textS_len false q1
    rw [e2] at h2
    have h3 := countS_le false q2
    rw [e3] at h3
    dsimp only at h1 h2 h3
    omega
  have HN3 : Hid (n3 < 18446744073709551616) := by have := countS_lt false q2; rw [e3] at this; exact this
  have HN5 : Hid (n5 < 18446744073709551616) := by have := countS_lt false q4; rw [e5] at this; exact this
  have HQ5 : Hid (q5.l.length ≤ l.length) := by
    show _ ≤ _
    have h0 := HQ3.out
    have h1 := numsS_le n3 q3
    rw [e4] at h1
    have h2 := countS_le false q4
    rw [e5] at h2
    dsimp only at h1 h2
    omega
  have HMB : Hid (MB ⟨n1, ba c2, N4, T6, ba x7, (recordsN q7.l).1⟩) := (mb_dec l hl e1 e2 e3 e4 e5 e6 e7).1
  have hk1 : (n1 : Int) < 65536 := by have := num2_lt e1; omega
  have hk0 : (0 : Int) ≤ (n1 : Int) := by omega
  have hwk : IntKind.u16.wrap (n1 : Int) = (n1 : Int) := by
    unfold IntKind.wrap
    have e1 : (2 : Int) ^ IntKind.u16.bits = 65536 := by decide
    simp [IntKind.signed, e1]
    omega
  have hR0 : RSt w ((w.alloc (.cells #[.int .u16 0, .string ⟨#[]⟩, .slice none 0 0, .slice none 0 0, .string ⟨#[]⟩, .slice none 0 0] 27)).alloc (.cells #[.slice a l.length c, .bool false] 76)) (w.heap.size + 1) ⟨l, false⟩ :=
    ⟨a, c, by have := heap_alloc_at (w.alloc (.cells #[.int .u16 0, .string ⟨#[]⟩, .slice none 0 0, .slice none 0 0, .string ⟨#[]⟩, .slice none 0 0] 27)) (.cells #[.slice a l.length c, .bool false] 76); simpa using this, hs, hc, hm, hn, (below_new w _).alloc (by simp) _, by omega⟩
  have hO0 : MC ((w.alloc (.cells #[.int .u16 0, .string ⟨#[]⟩, .slice none 0 0, .slice none 0 0, .string ⟨#[]⟩, .slice none 0 0] 27)).alloc (.cells #[.slice a l.length c, .bool false] 76)) w.heap.size #[.int .u16 0, .string ⟨#[]⟩, .slice none 0 0, .slice none 0 0, .string ⟨#[]⟩, .slice none 0 0] :=
    MC.later (heap_alloc_at w _) (below_new _ _)
  have HK1 := num2 w (w.heap.size + 1) ⟨l, false⟩ _ hR0
  unfold NmPost at HK1
  rw [e1] at HK1
  have HK := Lib.hid HK1
  have HO0 := Lib.hid hO0
  have HT2 := Lib.hid (fun W (h : RSt w W (w.heap.size + 1) q1) => textS_any w (w.heap.size + 1) q1 W h)
  unfold TxPost at HT2
  rw [e2] at HT2
  have HC3 := Lib.hid (fun W (h : RSt w W (w.heap.size + 1) q2) => countS_any w (w.heap.size + 1) q2 W h)
  unfold CtPost at HC3
  rw [e3] at HC3
  have HL := Lib.hid hL
  have E1 := Lib.hid e1; have E2 := Lib.hid e2; have E3 := Lib.hid e3; have E4 := Lib.hid e4; have E5 := Lib.hid e5; have E6 := Lib.hid e6; have E7 := Lib.hid e7
  clear hk1 hDD hs hn hL HK1 hR0 hO0 e1 e2 e3 e4 e5 e6 e7
  obtain ⟨i0, hi0, hz0, hz1, hz2⟩ := info_parts Tryd.info2
  obtain ⟨j0, hj0, hy0, hy1, hy2⟩ := info_parts Tryd.info49
  unfold maxLen at hm
  go_enter Tryd.func16, Tryd.ntmps16
  go_upto_block 0 with (first
    | (go_at_call 35; (with_reducible refine Calls.mono HK.out ?_); rintro e w1 ⟨rfl, hr1, hf1⟩; have HR1 := Lib.hid hr1; have HF1 := Lib.hid hf1; have HO1 := Lib.hid (HO0.out.fr hf1 (by unfold At; omega)); clear hr1 hf1)
    | (go_at_call 36; (with_reducible refine Calls.mono (HT2.out _ HR1.out) ?_); rintro e w2 ⟨rfl, hr2, hf2⟩; have HR2 := Lib.hid hr2; have HF2 := Lib.hid (HF1.out.trans hf2); have HO2 := Lib.hid (HO1.out.fr hf2 (by unfold At; omega)); clear hr2 hf2)
    | (go_at_call 34; (with_reducible refine Calls.mono (HC3.out _ (HR2.out.fr (Fr.below (S := fun _ => False) (below_new w2 _)) (fun h => h) (fun _ _ h => h))) ?_); rintro e w3 ⟨rfl, hr3, hf3⟩; have HR3 := Lib.hid hr3; have HF3 := Lib.hid hf3; clear hr3 hf3))
  have hlt2 : w.heap.size + 1 < w2.heap.size := by obtain ⟨_, _, h⟩ := HR2.out; exact lt_of_heap h.row
  have hM0 : MC w3 w2.heap.size #[.int .u16 (n1 : Int), .string (ba c2), .slice none 0 0, .slice none 0 0, .string ⟨#[]⟩, .slice none 0 0] := MC.fr (heap_alloc_at w2 _) HF3.out (by unfold At; omega)
  have hO3 : MC w3 w.heap.size #[.int .u16 0, .string ⟨#[]⟩, .slice none 0 0, .slice none 0 0, .string ⟨#[]⟩, .slice none 0 0] := (HO2.out.later (below_new w2 _)).fr HF3.out (by unfold At; omega)
  have hz3 : w2.heap.size < w3.heap.size := by have := HF3.out.size; simp only [World.size_alloc] at this; omega
  have HM0 := Lib.hid hM0; have HO3 := Lib.hid hO3; have HZ3 := Lib.hid hz3
  obtain ⟨mb, hmb⟩ : ∃ mb, w2.heap.size = mb := ⟨_, rfl⟩
  obtain ⟨rb, hrb⟩ : ∃ rb, w.heap.size + 1 = rb := ⟨_, rfl⟩
  obtain ⟨ob, hob⟩ : ∃ ob, w.heap.size = ob := ⟨_, rfl⟩
  have HRB := Lib.hid hrb; have HOB := Lib.hid hob
  rw [hmb, hrb] at hlt2
  rw [hmb] at HM0 HZ3
  rw [hob] at HO3
  have hlt0 : ob < rb := by omega
  rw [hrb] at HR3
  rw [hmb, hrb, hob]
  have HLT2 := Lib.hid hlt2; have HLT0 := Lib.hid hlt0
  clear hM0 hO3 hz3 HK HT2 HC3 HR1 HF1 HO1 HF2 HO2 HR2 HF3 HO0 hmb hrb hob hlt2 hlt0
  go_cut [9] from 34 to 52 (fun _ wx => ∃ v, Hid (RSt w wx rb q4) ∧ Hid (MC wx mb #[.int .u16 (n1 : Int), .string (ba c2), v, .slice none 0 0, .string ⟨#[]⟩, .slice none 0 0]) ∧ Hid (Fr (Two rb mb) w3 wx) ∧ Hid (OwnN wx w3.heap.size v N4))
  case first =>
    go_wp2_with fail
    go_loopw [9] (fun nv wr => ∃ (n : Nat) (q : St) (L : List Int) (v : Value), nv = .int .u64 n ∧ Hid (RSt w wr rb q) ∧ Hid (MC wr mb #[.int .u16 (n1 : Int), .string (ba c2), v, .slice none 0 0, .string ⟨#[]⟩, .slice none 0 0]) ∧ Hid (Fr (Two rb mb) w3 wr) ∧ Hid (OwnN wr w3.heap.size v L) ∧ Hid (numsS n3 q3 = (L ++ (numsS n q).1, (numsS n q).2)) ∧ Hid (L.length ≤ l.length + 1) ∧ Hid (q.bad = false → L.length + q.l.length ≤ l.length) ∧ Hid (n < 18446744073709551616)) (fun nv _ => (intOf nv).toNat)
    case atStart => exact ⟨n3, q3, [], .slice none 0 0, rfl, HR3.out, HM0.out, Fr.refl _ _, World.ownsRow_nil _ _ _ _, by show _ = _; simp, Nat.zero_le _, fun _ => by show 0 + q3.l.length ≤ _; have := HQ3.out; omega, HN3.out⟩
    case round =>
      obtain ⟨n, q, L, v, rfl, hr, hmc, hf, ho, he, hL1, hL2, hn64⟩ := hrel
      obtain ⟨a0, c0, rfl⟩ := own_slice ho.out
      obtain ⟨ra, rc, hrs⟩ := hr.out
      have x1 : wr.cell? ⟨rb, 1, none⟩ = some (.bool q.bad) := by rw [cell_of_row _ _ _ _ _ _ hrs.row]; rfl
      have hEND : (n = 0 ∨ q.bad = true) → Hid (N4 = L ∧ q4 = q) := fun h => by
        have h1 := nums_end he.out h
        rw [E4.out] at h1
        cases h1
        exact ⟨rfl, rfl⟩
      by_cases hn0 : n = 0
      · obtain ⟨rfl, rfl⟩ := (hEND (.inl hn0)).out
        subst hn0
        clear hEND hrs
        go_wp2_with fail
        go_meet
        case rel => exact ⟨_, hr, hmc, hf, ho⟩
      · have hnp : (0 : Int) < (n : Int) := by omega
        obtain ⟨m, rfl⟩ : ∃ m, n = m + 1 := ⟨n - 1, by omega⟩
        cases hb : q.bad with
        | true =>
          obtain ⟨rfl, rfl⟩ := (hEND (.inr hb)).out
          rw [hb] at x1
          clear hEND hrs hb
          go_wp2_with fail
          go_meet
          case rel => exact ⟨_, hr, hmc, hf, ho⟩
        | false =>
          rw [hb] at x1
          have HNX := Lib.hid (nums_next he.out hb)
          have hFD : Fr (fun _ => False) wr wr.drew := (Fr.refl _ wr).drewN 1
          have hmD := hmc.out.fr hFD (fun h => h)
          have hoD := own_fr ho.out hFD (fun _ h => h.elim)
          have HFD := Lib.hid hFD; have HMD := Lib.hid hmD; have HOD := Lib.hid hoD
          have HK := num8 w rb q wr.drew (hr.out.fr hFD (fun h => h) (fun _ _ h => h))
          clear hFD hmD hoD
          unfold NmPost at HK
          have HLF := Lib.hid (fun x => nums_left (B := l.length) (L := L) x hb (hL2.out hb))
          obtain ⟨x, q', hx⟩ : ∃ x q', numS 8 q = (x, q') := ⟨_, _, rfl⟩
          rw [hx] at HK HNX
          simp only [hx] at HLF
          have HK' := Lib.hid HK
          have HB := Lib.hid hb
          obtain ⟨z, hz⟩ : ∃ z, i64 x = z := ⟨_, rfl⟩
          rw [hz] at HNX
          have hcx : IntKind.i64.wrap (x : Int) = z := hz
          obtain ⟨_, _, d2, d3, _, _⟩ := hmc.out.cells
          have hwm : IntKind.u64.wrap (m : Int) = (m : Int) := u64_nat m (Nat.lt_of_succ_lt hn64.out)
          have hL1' : L.length ≤ 32769 := by have := hL1.out; omega
          clear HK hb hz hEND hx hrs
          go_wp2_with fail
          go_region_law (first
            | (go_simp; go_at_call 35; (with_reducible refine Calls.mono HK'.out ?_); rintro e w4 ⟨rfl, hr4, hf4⟩; have hm4 := HMD.out.fr hf4 (by have := HLT2.out; unfold At; omega); obtain ⟨_, _, d2', d3', _, _⟩ := hm4.cells; have hz4 := lt_of_heap hm4; have HR4 := Lib.hid hr4; have HF4 := Lib.hid hf4; have HM4 := Lib.hid hm4; have HO4 := Lib.hid (own_at HOD.out hf4 (Nat.lt_trans HLT2.out HZ3.out)); have hz34 := Nat.le_trans hf.out.size hf4.size; clear hr4 hf4 hm4)
            | (refine step_append_lies _ (by rfl) _ _ _ (by rfl) w3.heap.size 2 i0 _ 1 8 Tryd.underlying23 hi0 hz0 hz1 hz2 rfl (by omega) (.slice a0 L.length c0) L.length (L.map (Value.int .i64)) (by rfl) (HO4.out.alloc _) ⟨w4.heap.size, 0, none⟩ 1 1 [.int .i64 z] (by rfl) (by rfl) (World.news_of_block (cs := #[.int .i64 z]) (t := 2) (fr := (0, 0)) (heap_alloc_at w4 _)) (by simp [Value.oneCell']) (by omega) (by unfold maxLen; omega) (by omega) (by simp; omega) (w4.heap.size + 1) (by simp) ?_; intro g cap w5 hown5 hgrow5 hat5 hlt5; have HO5 := Lib.hid hown5; have HG5 := Lib.hid hgrow5; obtain ⟨hm5, d52, d53, f52, f53⟩ := app_mc (below_new w4 _) HM4.out HO4.out HZ3.out hgrow5; have HM5 := Lib.hid hm5; clear hown5 hgrow5 hm5))
          all_goals go_wp2_with fail
          all_goals
            go_roundw
            case rel =>
              have hf4 := fr_over (hf.out.trans (Fr.weak' (T := Two rb mb) HFD.out (fun _ h => h.elim))) HF4.out (fun i _ h => Or.inl h)
              obtain ⟨h1, h2, h3⟩ := dec_round HLT2.out HZ3.out HR4.out hf4 HO4.out (below_new w4 _) HG5.out HO5.out HM5.out (.slice (some ⟨g, 0, none⟩) (L.length + 1) cap)
              obtain ⟨k1, k2, k3, k4⟩ := h1 2
              obtain ⟨b1, b2⟩ := HLF.out z
              refine ⟨m, q', L ++ [z], _, by go_num, k1, h2, k2, ownN_snoc k3, HNX.out, b1, b2, Nat.lt_of_succ_lt hn64.out⟩
            case measure => (first | (simp [intOf]; done) | (simp [intOf]; omega))
  case rest =>
    obtain ⟨v, hr, hmc, hf, ho⟩ := hcut
    obtain ⟨na, nc, rfl⟩ := own_slice ho.out
    have HC5 := countS_any w rb q4 wc hr.out
    unfold CtPost at HC5
    have e5 := E5.out
    rw [e5] at HC5
    have HC5' := Lib.hid HC5
    clear e5 HC5
    go_upto_block 2 with (go_at_call 34; (with_reducible refine Calls.mono HC5'.out ?_); rintro e w6 ⟨rfl, hr6, hf6⟩; have HR6 := Lib.hid hr6; have HF6 := Lib.hid hf6; clear hr6 hf6)
    have HM6 := Lib.hid (hmc.out.fr HF6.out (by have := HLT2.out; unfold At; omega))
    have HON6 := Lib.hid (own_at ho.out HF6.out (Nat.lt_trans HLT2.out HZ3.out))
    have HF36 := Lib.hid (fr_over hf.out HF6.out (fun i _ h => Or.inl h))
    have HZ36 : Hid (w3.heap.size ≤ w6.heap.size) := HF36.out.size
    have HZ6 : Hid (mb < w6.heap.size) := Nat.lt_of_lt_of_le HZ3.out HZ36.out
    have HNB : Hid (∀ g, (Value.slice na N4.length nc).ownBlock = some g → g < w6.heap.size) := fun g hg => (HON6.out.lt g hg).2
    clear hr hmc hf ho HC5'
    go_cut [10] from 55 to 72 (fun _ wx => ∃ v, Hid (OwnN wx w3.heap.size (.slice na N4.length nc) N4) ∧ Hid (RSt w wx rb q6) ∧ Hid (MC wx mb #[.int .u16 (n1 : Int), .string (ba c2), .slice na N4.length nc, v, .string ⟨#[]⟩, .slice none 0 0]) ∧ Hid (Fr (Two rb mb) w6 wx) ∧ Hid (OwnT wx w6.heap.size v T6))
    case first =>
      go_wp2_with fail
      go_loopw [10] (fun nv wr => ∃ (n : Nat) (q : St) (L : List ByteArray) (v : Value), nv = .int .u64 n ∧ Hid (OwnN wr w3.heap.size (.slice na N4.length nc) N4) ∧ Hid (RSt w wr rb q) ∧ Hid (MC wr mb #[.int .u16 (n1 : Int), .string (ba c2), .slice na N4.length nc, v, .string ⟨#[]⟩, .slice none 0 0]) ∧ Hid (Fr (Two rb mb) w6 wr) ∧ Hid (OwnT wr w6.heap.size v L) ∧ Hid (termsS false n5 q5 = (L ++ (termsS false n q).1, (termsS false n q).2)) ∧ Hid (L.length ≤ l.length + 1) ∧ Hid (q.bad = false → L.length + q.l.length ≤ l.length) ∧ Hid (n < 18446744073709551616)) (fun nv _ => (intOf nv).toNat)
      case atStart => exact ⟨n5, q5, [], .slice none 0 0, rfl, HON6.out, HR6.out, HM6.out, Fr.refl _ _, World.ownsRow_nil _ _ _ _, by show _ = _; simp, Nat.zero_le _, fun _ => by show 0 + q5.l.length ≤ _; have := HQ5.out; omega, HN5.out⟩
      case round =>
        obtain ⟨n, q, L, v, rfl, hon, hr, hmc, hf, ho, he, hL1, hL2, hn64⟩ := hrel
        obtain ⟨a0, c0, rfl⟩ := own_slice ho.out
        obtain ⟨ra, rc, hrs⟩ := hr.out
        have x1 : wr.cell? ⟨rb, 1, none⟩ = some (.bool q.bad) := by rw [cell_of_row _ _ _ _ _ _ hrs.row]; rfl
        have hEND : (n = 0 ∨ q.bad = true) → Hid (T6 = L ∧ q6 = q) := fun h => by
          have h1 := terms_end he.out h
          rw [E6.out] at h1
          cases h1
          exact ⟨rfl, rfl⟩
        by_cases hn0 : n = 0
        · obtain ⟨rfl, rfl⟩ := (hEND (.inl hn0)).out
          subst hn0
          clear hEND hrs
          go_wp2_with fail
          go_meet
          case rel => exact ⟨_, hon, hr, hmc, hf, ho⟩
        · have hnp : (0 : Int) < (n : Int) := by omega
          obtain ⟨m, rfl⟩ : ∃ m, n = m + 1 := ⟨n - 1, by omega⟩
          cases hb : q.bad with
          | true =>
            obtain ⟨rfl, rfl⟩ := (hEND (.inr hb)).out
            rw [hb] at x1
            clear hEND hrs hb
            go_wp2_with fail
            go_meet
            case rel => exact ⟨_, hon, hr, hmc, hf, ho⟩
          | false =>
            rw [hb] at x1
            have HNX := Lib.hid (terms_next he.out hb)
            have hFD : Fr (fun _ => False) wr wr.drew := (Fr.refl _ wr).drewN 1
            have hmD := hmc.out.fr hFD (fun h => h)
            have hoD := own_fr ho.out hFD (fun _ h => h.elim)
            have HFD := Lib.hid hFD; have HMD := Lib.hid hmD; have HOD := Lib.hid hoD
            have HND := Lib.hid (own_fr hon.out hFD (fun _ h => h.elim))
            have HK := textS_any w rb q wr.drew (hr.out.fr hFD (fun h => h) (fun _ _ h => h))
            clear hFD hmD hoD
            unfold TxPost at HK
            have HLF := Lib.hid (fun x => terms_left (B := l.length) (L := L) x hb (hL2.out hb))
            obtain ⟨x, q', hx⟩ : ∃ x q', textS false q = (x, q') := ⟨_, _, rfl⟩
            rw [hx] at HK HNX
            simp only [hx] at HLF
            have HB := Lib.hid hb
            obtain ⟨z, hz⟩ : ∃ z, ba x = z := ⟨_, rfl⟩
            rw [hz] at HNX
            rw [hz] at HK
            have HK' := Lib.hid HK
            obtain ⟨_, _, d2, d3, _, _⟩ := hmc.out.cells
            have hwm : IntKind.u64.wrap (m : Int) = (m : Int) := u64_nat m (Nat.lt_of_succ_lt hn64.out)
            have hL1' : L.length ≤ 32769 := by have := hL1.out; omega
            clear HK hb hz hEND hx hrs
            go_wp2_with fail
            go_region_law (first
              | (go_simp; go_at_call 36; (with_reducible refine Calls.mono HK'.out ?_); rintro e w4 ⟨rfl, hr4, hf4⟩; have hm4 := HMD.out.fr hf4 (by have := HLT2.out; unfold At; omega); obtain ⟨_, _, d2', d3', _, _⟩ := hm4.cells; have hz4 := lt_of_heap hm4; have HR4 := Lib.hid hr4; have HF4 := Lib.hid hf4; have HM4 := Lib.hid hm4; have HO4 := Lib.hid (own_at HOD.out hf4 (Nat.lt_trans HLT2.out HZ6.out)); have hz34 := Nat.le_trans hf.out.size hf4.size; clear hr4 hf4 hm4)
              | (refine step_append_lies _ (by rfl) _ _ _ (by rfl) w6.heap.size 49 j0 _ 1 16 Tryd.underlying24 hj0 hy0 hy1 hy2 rfl (by omega) (.slice a0 L.length c0) L.length (L.map Value.string) (by rfl) (HO4.out.alloc _) ⟨w4.heap.size, 0, none⟩ 1 1 [.string z] (by rfl) (by rfl) (World.news_of_block (cs := #[.string z]) (t := 49) (fr := (0, 0)) (heap_alloc_at w4 _)) (by simp [Value.oneCell']) (by omega) (by unfold maxLen; omega) (by omega) (by simp; omega) (w4.heap.size + 1) (by simp) ?_; intro g cap w5 hown5 hgrow5 hat5 hlt5; have HO5 := Lib.hid hown5; have HG5 := Lib.hid hgrow5; obtain ⟨hm5, d52, d53, f52, f53⟩ := app_mc (below_new w4 _) HM4.out HO4.out HZ6.out hgrow5; have HM5 := Lib.hid hm5; clear hown5 hgrow5 hm5))
            all_goals go_wp2_with fail
            all_goals
              go_roundw
              case rel =>
                have hf4 := fr_over (hf.out.trans (Fr.weak' (T := Two rb mb) HFD.out (fun _ h => h.elim))) HF4.out (fun i _ h => Or.inl h)
                obtain ⟨h1, h2, h3⟩ := dec_round HLT2.out HZ6.out HR4.out hf4 HO4.out (below_new w4 _) HG5.out HO5.out HM5.out (.slice (some ⟨g, 0, none⟩) (L.length + 1) cap)
                obtain ⟨k1, k2, k3, k4⟩ := h1 3
                obtain ⟨b1, b2⟩ := HLF.out z
                refine ⟨m, q', L ++ [z], _, by go_num, k4 _ _ _ _ _ _ HZ3.out HZ36.out HNB.out (own_at HND.out HF4.out (Nat.lt_trans HLT2.out HZ3.out)), k1, h3, k2, ownT_snoc k3, HNX.out, b1, b2, Nat.lt_of_succ_lt hn64.out⟩
              case measure => (first | (simp [intOf]; done) | (simp [intOf]; omega))
    case rest =>
      obtain ⟨v, hon, hr, hmc, hf, ho⟩ := hcut
      obtain ⟨ta, tc, rfl⟩ := own_slice ho.out
      have HT7 := textS_any w rb q6 wc hr.out
      unfold TxPost at HT7
      have e7 := E7.out
      rw [e7] at HT7
      have HT7' := Lib.hid HT7
      clear e7 HT7
      go_upto_region 15 with (go_at_call 36; (with_reducible refine Calls.mono HT7'.out ?_); rintro e w7 ⟨rfl, hr7, hf7⟩; have hm7 := hmc.out.fr hf7 (by have := HLT2.out; unfold At; omega); obtain ⟨_, _, _, _, d74, _⟩ := hm7.cells; have f74 : w7.frozen? ⟨mb, 4, none⟩ = false := frozen_of_row _ _ _ _ _ hm7; have HM7 := Lib.hid hm7; have HR7 := Lib.hid hr7; have HF7 := Lib.hid hf7; clear hm7 hr7 hf7)
      have hFc8 : Fr (Two rb mb) wc (w7.setCell ⟨mb, 4, none⟩ (.string (ba x7))) := (Fr.weak' HF7.out (fun _ h => Or.inl h)).set _ _ _ (.inr rfl)
      have hm8 : MC (w7.setCell ⟨mb, 4, none⟩ (.string (ba x7))) mb #[.int .u16 (n1 : Int), .string (ba c2), .slice na N4.length nc, .slice ta T6.length tc, .string (ba x7), .slice none 0 0] := by
        show (w7.setCell _ _).heap[mb]? = _
        rw [heap_setCell_same _ _ _ _ _ _ HM7.out]; rfl
      have hr8 : RSt w (w7.setCell ⟨mb, 4, none⟩ (.string (ba x7))) rb q7 := HR7.out.fr (S := fun k => k = mb) ((Fr.refl _ _).set _ _ _ rfl) (by have := HLT2.out; omega) (fun k hk => by have := HLT2.out; have := HRB.out; omega)
      clear d74 f74
      generalize w7.setCell ⟨mb, 4, none⟩ (.string (ba x7)) = w8 at hFc8 hm8 hr8
      have HF38 : Hid (Fr (Two rb mb) w3 w8) := (HF36.out.trans hf.out).trans hFc8
      have HO8 : Hid (MC w8 ob _) := HO3.out.fr HF38.out (by have := HLT2.out; have := HLT0.out; unfold Two; omega)
      have HON8 : Hid (OwnN w8 w3.heap.size (.slice na N4.length nc) N4) := own_fr hon.out hFc8 (fun k hk => by have := HLT2.out; have := HZ3.out; unfold Two at hk; omega)
      have HOT8 : Hid (OwnT w8 w6.heap.size (.slice ta T6.length tc) T6) := own_fr ho.out hFc8 (fun k hk => by have := HLT2.out; have := HZ6.out; unfold Two at hk; omega)
      have HM8 := Lib.hid hm8; have HR8 := Lib.hid hr8
      have hz8 : Hid (mb < w8.heap.size) := lt_of_heap hm8
      clear hFc8 hm8 hr8 HT7' hon hr hmc hf ho
      obtain ⟨ra, rc, hrs⟩ := HR8.out
      have x0 : w8.cell? ⟨rb, 0, none⟩ = some (.slice ra q7.l.length rc) := by rw [cell_of_row _ _ _ _ _ _ hrs.row]; rfl
      have HREC := records_any ra rc q7.l w8 hrs.cap hrs.max (hrs.src.below hrs.low) hrs.nil
      unfold RecordsPost at HREC
      obtain ⟨F, hF⟩ : ∃ F, (recordsN q7.l).2 = F := ⟨_, rfl⟩
      obtain ⟨M5, hM5⟩ : ∃ M5, (recordsN q7.l).1 = M5 := ⟨_, rfl⟩
      rw [hF, hM5] at HREC HD
      rw [hM5] at HMB
      have HREC' := Lib.hid HREC
      clear HREC hF hM5 hrs
      go_upto_region 17 with (go_at_call 37; (with_reducible refine Calls.mono HREC'.out ?_); rintro e w9 ⟨rv, rfl, hrv, hb9⟩; obtain ⟨va, vc, rfl, hvr, hvm⟩ := hrv.recs; have hm9 := HM8.out.later hb9; obtain ⟨_, _, _, _, _, d95⟩ := hm9.cells; have f95 : w9.frozen? ⟨mb, 5, none⟩ = false := frozen_of_row _ _ _ _ _ hm9; have HM9 := Lib.hid hm9; have HB9 := Lib.hid hb9; have HRV := Lib.hid hrv; clear hm9 hb9 hrv hvr)
      have hF810 : Fr (fun k => k = mb) w8 (w9.setCell ⟨mb, 5, none⟩ (.slice va M5.length vc)) := (Fr.below HB9.out).set _ _ _ rfl
      have hm10 : MC (w9.setCell ⟨mb, 5, none⟩ (.slice va M5.length vc)) mb #[.int .u16 (n1 : Int), .string (ba c2), .slice na N4.length nc, .slice ta T6.length tc, .string (ba x7), .slice va M5.length vc] := by
        show (w9.setCell _ _).heap[mb]? = _
        rw [heap_setCell_same _ _ _ _ _ _ HM9.out]; rfl
      have hrv10 : OwnRecs (w9.setCell ⟨mb, 5, none⟩ (.slice va M5.length vc)) w8.heap.size (.slice va M5.length vc) M5 := HRV.out.keep (fun g hg _ => Below.heap_setCell _ _ _ _ (fun e => by have := hz8.out; subst e; omega))
      clear d95 f95 x0
      generalize w9.setCell ⟨mb, 5, none⟩ (.slice va M5.length vc) = w10 at hF810 hm10 hrv10
      have HRV10 := Lib.hid hrv10
      have HR10 : Hid (RSt w w10 rb q7) := HR8.out.fr hF810 (by have := HLT2.out; omega) (fun k hk => by have := HLT2.out; have := HRB.out; omega)
      have HO10 : Hid (w10.heap[ob]? = some (.cells #[.int .u16 0, .string ⟨#[]⟩, .slice none 0 0, .slice none 0 0, .string ⟨#[]⟩, .slice none 0 0] 27 (0, 0))) := HO8.out.fr hF810 (by have := HLT2.out; have := HLT0.out; omega)
      have HON10 : Hid (OwnN w10 w3.heap.size (.slice na N4.length nc) N4) := own_fr HON8.out hF810 (fun k hk => by have := HZ3.out; omega)
      have HOT10 : Hid (OwnT w10 w6.heap.size (.slice ta T6.length tc) T6) := own_fr HOT8.out hF810 (fun k hk => by have := HZ6.out; omega)
      have HM10 : Hid (w10.heap[mb]? = some (.cells #[.int .u16 (n1 : Int), .string (ba c2), .slice na N4.length nc, .slice ta T6.length tc, .string (ba x7), .slice va M5.length vc] 27 (0, 0))) := hm10
      have HZ8 : Hid (w.heap.size ≤ w8.heap.size) := by obtain ⟨_, _, h⟩ := HR8.out; exact h.low.size
      have HZ30 : Hid (w.heap.size ≤ w3.heap.size) := by show _ ≤ _; have := HZ3.out; have := HLT2.out; have := HRB.out; omega
      have HB10 : Hid (Below w.heap.size w w10) := by obtain ⟨_, _, h⟩ := HR10.out; exact h.low
      have x1 : w10.cell? ⟨rb, 1, none⟩ = some (.bool q7.bad) := by obtain ⟨_, _, h⟩ := HR10.out; rw [cell_of_row _ _ _ _ _ _ h.row]; rfl
      obtain ⟨bd, hbd⟩ : ∃ bd, q7.bad = bd := ⟨_, rfl⟩
      rw [hbd] at x1 HD
      clear hF810 hm10 hrv10 HREC' HM9 HRV HB9 HM7 HF7 HR7 HR8 HR10 hbd
      cases bd with
      | true =>
        go_wp2_with (first
              | (with_reducible refine wpList_store_row rfl 27 (.tmp 2) (.tmp 99) rfl ob #[.int .u16 0, .string ⟨#[]⟩, .slice none 0 0, .slice none 0 0, .string ⟨#[]⟩, .slice none 0 0] rfl rfl 27 _ HO10.out (by kernel_rfl) rfl (by simp [Value.oneCell']) ?_))
        have hl := run_loadVar_row (P := Tryd.prog) (w10.setRow ob #[.int .u16 0, .string ⟨#[]⟩, .slice none 0 0, .slice none 0 0, .string ⟨#[]⟩, .slice none 0 0]) ob 27 27 #[.int .u16 0, .string ⟨#[]⟩, .slice none 0 0, .slice none 0 0, .string ⟨#[]⟩, .slice none 0 0] (0, 0) _ (setRow_heap w10 ob _ _ 27 _ HO10.out) Tryd.underlying27 rfl (by kernel_rfl)
        refine bodyPost_ret (results_cell_tmp Tryd.results16 _ _ _ rfl hl) rfl ?_
        rw [show D = (no, 80) from by rw [HD.out, if_pos (by simp)]]
        exact ⟨_, _, _, rfl, ownM_no _ _, below_setRow HB10.out (by have := HOB.out; omega) _⟩
      | false =>
        by_cases hF0 : F = 0
        · subst hF0
          obtain ⟨B, hB⟩ : ∃ B, mayN R ⟨n1, ba c2, N4, T6, ba x7, M5⟩ = B := ⟨_, rfl⟩
          have HMAY : Calls Tryd.prog 23 #[.agg #[.int .u16 (n1 : Int), .string (ba c2), .slice na N4.length nc, .slice ta T6.length tc, .string (ba x7), .slice va M5.length vc]] w10 (BoolPost B w10) := by
            have := may_any ⟨n1, ba c2, N4, T6, ba x7, M5⟩ na nc ta tc va vc w10 HMB.out ⟨ints_own HON10.out, strs_own HOT10.out, by obtain ⟨_, _, e, h, _⟩ := HRV10.out.recs; cases e; exact h⟩ (lib_later HL.out HB10.out)
            rw [hB] at this
            exact this
          rw [hB] at HD
          have HMAY' := Lib.hid HMAY
          obtain ⟨d0, d1, d2, d3, d4, d5⟩ := MC.cells HM10.out
          clear HMAY hB
          cases B with
          | false =>
            go_wp2_with (first
              | (with_reducible refine wpList_store_row rfl 27 (.tmp 2) (.tmp 99) rfl ob #[.int .u16 0, .string ⟨#[]⟩, .slice none 0 0, .slice none 0 0, .string ⟨#[]⟩, .slice none 0 0] rfl rfl 27 _ HO11.out (by kernel_rfl) rfl (by simp [Value.oneCell']) ?_)
              | (go_at_call 23; (with_reducible refine Calls.mono HMAY'.out ?_); rintro e w11 ⟨rfl, hb11⟩; have HO11 : Hid (w11.heap[ob]? = some (.cells #[.int .u16 0, .string ⟨#[]⟩, .slice none 0 0, .slice none 0 0, .string ⟨#[]⟩, .slice none 0 0] 27 (0, 0))) := (hb11.block ob (lt_of_heap HO10.out)).trans HO10.out; have HB11x : Hid (Below w.heap.size w w11) := HB10.out.trans (hb11.mono HB10.out.size); clear hb11))
            have hl := run_loadVar_row (P := Tryd.prog) (w11.setRow ob #[.int .u16 0, .string ⟨#[]⟩, .slice none 0 0, .slice none 0 0, .string ⟨#[]⟩, .slice none 0 0]) ob 27 27 #[.int .u16 0, .string ⟨#[]⟩, .slice none 0 0, .slice none 0 0, .string ⟨#[]⟩, .slice none 0 0] (0, 0) _ (setRow_heap w11 ob _ _ 27 _ HO11.out) Tryd.underlying27 rfl (by kernel_rfl)
            refine bodyPost_ret (results_cell_tmp Tryd.results16 _ _ _ rfl hl) rfl ?_
            rw [show D = (no, 80) from by rw [HD.out, if_pos (by simp)]]
            exact ⟨_, _, _, rfl, ownM_no _ _, below_setRow HB11x.out (by have := HOB.out; omega) _⟩
          | true =>
            go_wp2_with (first
              | (go_at_call 23; (with_reducible refine Calls.mono HMAY'.out ?_); rintro e w11 ⟨rfl, hb11⟩; have HO11 : Hid (w11.heap[ob]? = some (.cells #[.int .u16 0, .string ⟨#[]⟩, .slice none 0 0, .slice none 0 0, .string ⟨#[]⟩, .slice none 0 0] 27 (0, 0))) := (hb11.block ob (lt_of_heap HO10.out)).trans HO10.out; have HM11 : Hid (w11.heap[mb]? = some (.cells #[.int .u16 (n1 : Int), .string (ba c2), .slice na N4.length nc, .slice ta T6.length tc, .string (ba x7), .slice va M5.length vc] 27 (0, 0))) := (hb11.block mb (lt_of_heap HM10.out)).trans HM10.out; have HB11 := Lib.hid hb11; clear hb11 HM10)
              | (with_reducible refine wpList_load_row rfl 27 (.tmp 8) rfl mb rfl 27 _ (0, 0) _ HM11.out Tryd.underlying27 rfl (by kernel_rfl) ?_)
              | (with_reducible refine wpList_store_row rfl 27 (.tmp 2) (.tmp 100) rfl ob #[.int .u16 (n1 : Int), .string (ba c2), .slice na N4.length nc, .slice ta T6.length tc, .string (ba x7), .slice va M5.length vc] rfl rfl 27 _ HO11.out (by kernel_rfl) rfl (by simp [Value.oneCell']) ?_))
            have hl := run_loadVar_row (P := Tryd.prog) (w11.setRow ob #[.int .u16 (n1 : Int), .string (ba c2), .slice na N4.length nc, .slice ta T6.length tc, .string (ba x7), .slice va M5.length vc]) ob 27 27 #[.int .u16 (n1 : Int), .string (ba c2), .slice na N4.length nc, .slice ta T6.length tc, .string (ba x7), .slice va M5.length vc] (0, 0) _ (setRow_heap w11 ob _ _ 27 _ HO11.out) Tryd.underlying27 rfl (by kernel_rfl)
            refine bodyPost_ret (results_cell_tmp Tryd.results16 _ _ _ rfl hl) rfl ?_
            rw [show D = (⟨n1, ba c2, N4, T6, ba x7, M5⟩, 0) from by rw [HD.out, if_neg (by rintro (h | h | h) <;> first | cases h | exact h rfl)]]
            have hB11 : Below w.heap.size w (w11.setRow ob #[.int .u16 (n1 : Int), .string (ba c2), .slice na N4.length nc, .slice ta T6.length tc, .string (ba x7), .slice va M5.length vc]) := below_setRow (HB10.out.trans (HB11.out.mono HB10.out.size)) (by have := HOB.out; omega) _
            have hset : ∀ g, ob < g → g < w10.heap.size → (w11.setRow ob #[.int .u16 (n1 : Int), .string (ba c2), .slice na N4.length nc, .slice ta T6.length tc, .string (ba x7), .slice va M5.length vc]).heap[g]? = w10.heap[g]? := fun g h1 h2 => (setRow_other w11 ob g _ (by omega)).trans (HB11.out.block g h2)
            have hob : ob < w3.heap.size := by have := HLT0.out; have := HLT2.out; have := HZ3.out; omega
            refine ⟨_, _, _, rfl, ⟨?_, ?_, ?_⟩, hB11⟩
            · exact own_base (ownsRow_blocks HON10.out (fun g hg => hset g (by have := (HON10.out.lt g hg).1; omega) (HON10.out.lt g hg).2)) HZ30.out
            · exact own_base (ownsRow_blocks HOT10.out (fun g hg => hset g (by have := (HOT10.out.lt g hg).1; have := HZ36.out; omega) (HOT10.out.lt g hg).2)) (Nat.le_trans HZ30.out HZ36.out)
            · exact OwnRecs.base (HRV10.out.keep (fun g hg h2 => hset g (by have := hz8.out; have := HLT0.out; have := HLT2.out; omega) h2)) HZ8.out
        · have hFi : ¬ (F : Int) = 0 := by omega
          go_wp2_with (first
              | (with_reducible refine wpList_store_row rfl 27 (.tmp 2) (.tmp 99) rfl ob #[.int .u16 0, .string ⟨#[]⟩, .slice none 0 0, .slice none 0 0, .string ⟨#[]⟩, .slice none 0 0] rfl rfl 27 _ HO10.out (by kernel_rfl) rfl (by simp [Value.oneCell']) ?_))
          have hl := run_loadVar_row (P := Tryd.prog) (w10.setRow ob #[.int .u16 0, .string ⟨#[]⟩, .slice none 0 0, .slice none 0 0, .string ⟨#[]⟩, .slice none 0 0]) ob 27 27 #[.int .u16 0, .string ⟨#[]⟩, .slice none 0 0, .slice none 0 0, .string ⟨#[]⟩, .slice none 0 0] (0, 0) _ (setRow_heap w10 ob _ _ 27 _ HO10.out) Tryd.underlying27 rfl (by kernel_rfl)
          refine bodyPost_ret (results_cell_tmp Tryd.results16 _ _ _ rfl hl) rfl ?_
          rw [show D = (no, 80) from by rw [HD.out, if_pos (by simp [hF0])]]
          exact ⟨_, _, _, rfl, ownM_no _ _, below_setRow HB10.out (by have := HOB.out; omega) _⟩
theorem decode_any (a : Option Addr) (c : Nat) (l : List UInt8) (w : World) (hc : l.length ≤ c) (hm : c ≤ maxLen) (hs : Src w a l) (hn : a = none → c = 0) (hL : LibOk w) : Calls Tryd.prog 16 #[.slice a l.length c] w (DecPost (Wire.decN R false l) w) := by
  by_cases h : 32768 < l.length
  · exact decode_big a c l w h hc hm
  · exact decode_few a c l w (by omega) hc hm hs hn hL
end Go.Proofs.YtakfhoodjcfpcaaDoor.T
