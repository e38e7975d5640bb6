/- term, the document's: read of terms with parts. (Printed by a program of ours.) -/
import Derived.Lib.ParseIntB
import Derived.Lib.Bytealg
import Derived.Shelf.Strings.Builder1
import Derived.Shelf.Small.Bits
import Derived.Shelf.Small.Strs
import Derived.Shelf.Small.Wraps
import Derived.Shelf.Strings.BuilderF
import Derived.Shelf.Strings.BuilderK
import Derived.Shelf.Strconv.Itoa0
import Derived.Shelf.Strconv.Itoa1
import Derived.Shelf.LaysM
import Derived.Shelf.Strconv.Itoa2
import Derived.Shelf.Strconv.Itoa3
import Derived.Shelf.Strconv.Itoa4
import Derived.Shelf.Strconv.ParseIntEmpty
import Derived.Shelf.Strconv.Clone
import Derived.Shelf.Strconv.SyntaxError
import Derived.Shelf.LaysC
import Derived.Shelf.Strconv.ToError
import Derived.Shelf.Strconv.Lower
import Derived.Shelf.Strconv.ParseUint10
import Derived.Shelf.Strconv.ParseUint10Empty
import Derived.Shelf.Strconv.ParseUint10Any
import Derived.Shelf.Strconv.ParseInt10
import Derived.Shelf.Strconv.RangeError
import Derived.Shelf.Strconv.ToErrorRange
import Derived.Shelf.Strconv.ParseUintEmpty
import Derived.Shelf.Strconv.ParseUint10b64
import Derived.Shelf.Strconv.ParseUint10b32
import Derived.Shelf.Strconv.ParseUint10b16
import Derived.Shelf.Strconv.ParseUint10b8
import Derived.Shelf.Strconv.ParseUint10At
import Derived.Shelf.Strconv.ParseInt10At64
import Derived.Shelf.Strconv.ParseInt10At32
import Derived.Shelf.Strconv.ParseInt10At16
import Derived.Shelf.Strconv.ParseInt10At8
import Derived.Shelf.Strconv.ParseInt10All
import Derived.Shelf.Strconv.ParseIntPublic10
import Derived.Shelf.Strconv.ErrVarParseInt
import Derived.Shelf.Strings.Search1
import Derived.Shelf.Bits.Mul64
import Derived.Shelf.Strings.BuilderCap
import Derived.Ground.Names2Prog
import Derived.Shelf.Slices.Clone
import Derived.Shelf.Slices.SearchI
import Derived.Ground.SlgnProg
import Derived.Shelf.SlicesE.Clone
import Derived.WalkKit
import Derived.WalkSpells
import Derived.WalkLawsBesides
import Derived.Handy
import Derived.Lib.Hide
import Derived.Deep.QuietTactic
import Derived.BigQuiet
import Derived.Deep.RegionHeld3
import Derived.Lib.Strings
import Derived.Lib.IndexBytes
import Derived.BigRegion
import Derived.Deep.RegionLaw
import Derived.Deep.AppendLies
import Derived.Deep.LoopGhost
import Derived.Deep.Onto
import Derived.Deep.WholeRow
import Derived.Deep.CutRange
import Derived.Laws.CopyOwn
import Derived.Test.YtbdimlppnhcicaaGreatDoorRows
import Derived.Test.YtbdimlppnhcicaaGreatDoorProg
import Derived.Test.YtbdimlppnhcicaaGreatDoorNum
import Derived.Test.YtbdimlppnhcicaaGreatDoorNu
import Derived.Test.YtbdimlppnhcicaaGreatDoorTa
import Derived.Test.YtbdimlppnhcicaaGreatDoorTl
import Derived.Test.YtbdimlppnhcicaaGreatDoorRa
namespace Go.Proofs.YtbdimlppnhcicaaGreatDoor
set_option linter.unusedVariables false
open Go.RowKit
theorem Tryz.info3 : (Tryz.prog.info? 3).map (fun i => (i.zero, i.size, i.bytes)) = some (some (.int .i64 0), 1, 8) := by kernel_rfl
theorem ownsRow_blocks {w w' : World} {base E size n : Nat} {v : Value} {xs : List Value} (h : w.ownsRow base E size v n xs) (hk : ∀ g, v.ownBlock = some g → w'.heap[g]? = w.heap[g]?) : w'.ownsRow base E size v n xs := by
  refine ⟨h.1, ?_⟩
  rcases h.2 with h0 | ⟨g, cap, cur, hv, hg, hh, hrest⟩
  · exact .inl h0
  · exact .inr ⟨g, cap, cur, hv, hg, by rw [hk g (by rw [hv]; rfl)]; exact hh, hrest⟩
theorem own_base {w : World} {B B' E size n : Nat} {v : Value} {xs : List Value} (h : w.ownsRow B E size v n xs) (hb : B' ≤ B) : w.ownsRow B' E size v n xs :=
  ⟨h.1, h.2.imp id fun ⟨g, cap, cur, e1, e2, e3⟩ => ⟨g, cap, cur, e1, Nat.le_trans hb e2, e3⟩⟩
theorem parse_drop {R : Nat} {s : ByteArray} {a : Nat} {x : Sh} {r : List UInt8} (h : parse R (s.data.toList.drop a) = some (x, r)) : r.length ≤ s.size ∧ s.data.toList.drop (s.size - r.length) = r ∧ a ≤ s.size - r.length := by
  obtain ⟨c, hc, _⟩ := parse_front R _ _ _ h
  have h1 := congrArg List.length hc
  rw [drop_len, List.length_append] at h1
  have h2 : s.data.toList.drop (a + c.length) = r := by rw [← List.drop_drop, hc, List.drop_left]
  by_cases h0 : r = []
  · subst h0
    have ha : a ≤ s.size := by
      rcases Nat.lt_or_ge s.size a with h' | h'
      · rw [drop_nil s a (by omega), parse_nil] at h; cases h
      · exact h'
    exact ⟨by simp, drop_nil s _ (by simp), by simpa using ha⟩
  · have : 0 < r.length := List.length_pos_iff.2 h0
    refine ⟨by omega, ?_, by omega⟩
    rw [show s.size - r.length = a + c.length by omega]; exact h2
def toRest : Option (List (List UInt8) × Nat × List UInt8) → Option Rest
  | none => none
  | some (ks, d, u) => some (0, [], ks, d, u)
def toTerm (c : UInt8) : Option (List (List UInt8) × Nat × List UInt8) → Option (Sh × List UInt8)
  | none => none
  | some (ks, d, u) => if fitsB c ks then some (⟨c, 0, [], ks, d⟩, u) else none
theorem res_kidsO (R k : Nat) (l : List UInt8) : kidsO R k l = toRest (kidsF (parse R) k [] 1 l) := by
  rw [kidsF_eq _ k [] 1 l (Nat.le_refl _)]
  unfold kidsO
  cases h : kidsP (parse R) k l with
  | none => rfl
  | some y =>
    obtain ⟨ks, d, u⟩ := y
    have := kids_deep1 _ k l ks d u h
    simp only [toRest, List.nil_append, show max 1 d = d by omega]
/-- the parts so far, and where the next begins -/
def OffInv (s : ByteArray) (st : Nat) (acc : List (List UInt8)) (a : Nat) : Prop := s.data.toList.drop st = acc.flatten ++ s.data.toList.drop a ∧ a = st + acc.flatten.length
theorem OffInv.next {s : ByteArray} {st a a' : Nat} {acc : List (List UInt8)} (h : OffInv s st acc a) (ha : a ≤ a') (ha' : a' ≤ s.size) : OffInv s st (acc ++ [(s.data.toList.drop a).take (a' - a)]) a' ∧ ((s.data.toList.drop a).take (a' - a)).length = a' - a := by
  have hl : ((s.data.toList.drop a).take (a' - a)).length = a' - a := by rw [List.length_take, drop_len]; omega
  have hd : s.data.toList.drop a = (s.data.toList.drop a).take (a' - a) ++ s.data.toList.drop a' := by
    conv => lhs; rw [← List.take_append_drop (a' - a) (s.data.toList.drop a)]
    rw [List.drop_drop, show a + (a' - a) = a' by omega]
  refine ⟨⟨?_, ?_⟩, hl⟩
  · rw [h.1, List.flatten_append, List.append_assoc]
    congr 1
    rw [List.flatten_cons, List.flatten_nil, List.append_nil]; exact hd
  · rw [List.flatten_append, List.length_append, List.flatten_cons, List.flatten_nil, List.append_nil, hl]; have := h.2; omega
/-- what is being put together lies in block ob -/
def Oc (ob : Nat) (e d : Int) (kv : Value) (w : World) : Prop := w.heap[ob]? = some (.cells #[.int .i64 e, .int .i64 d, .int .u64 0, .int .i64 0, kv] 207 (0, 0))
theorem Oc.c {ob : Nat} {e d : Int} {kv : Value} {w : World} (h : Oc ob e d kv w) : w.cell? ⟨ob, 0, none⟩ = some (.int .i64 e) ∧ w.cell? ⟨ob, 1, none⟩ = some (.int .i64 d) ∧ w.cell? ⟨ob, 2, none⟩ = some (.int .u64 0) ∧ w.cell? ⟨ob, 3, none⟩ = some (.int .i64 0) ∧ w.cell? ⟨ob, 4, none⟩ = some kv := by
  simp [World.cell?, show w.heap[ob]? = _ from h]
theorem Oc.f {ob : Nat} {e d : Int} {kv : Value} {w : World} (h : Oc ob e d kv w) (o : Nat) : w.frozen? ⟨ob, o, none⟩ = false := by simp [World.frozen?, show w.heap[ob]? = _ from h]
theorem Oc.lt {ob : Nat} {e d : Int} {kv : Value} {w : World} (h : Oc ob e d kv w) : ob < w.heap.size := (Array.getElem?_eq_some_iff.1 h).1
theorem one_row (w : World) (x : Value) (b : Nat) (hb : b ≤ w.heap.size) (hx : x.oneCell' = true) : (w.alloc (.cells #[x] 3)).ownsRow b 3 1 (.slice (some ⟨w.heap.size, 0, none⟩) 1 1) 1 [x] :=
  ⟨rfl, .inr ⟨w.heap.size, 1, #[x], rfl, hb, heap_alloc_at w _, Nat.le_refl _, by unfold maxLen; omega, rfl, rfl⟩⟩
set_option maxRecDepth 100000 in
set_option maxHeartbeats 4000000 in
theorem rread_parts (at_ R k : Nat) (s : ByteArray) (w : World) (h : at_ < s.size) (hs : s.size ≤ 16384) (hR : R ≤ 63) (c : UInt8) (hc : s[at_] = c) (C110 : c ≠ 110) (C116 : c ≠ 116) (C84 : c ≠ 84) (hk : arity c = some k) (hT : ∀ (a : Nat) (W : World), a ≤ s.size → Calls Tryz.prog 127 #[.string s, .int .i64 a, .int .i64 R] W (CutPost s (parse R (s.data.toList.drop a)) W)) :
    Calls Tryz.prog 127 #[.string s, .int .i64 at_, .int .i64 ((R : Int) + 1)] w (CutPost s (parse (R + 1) (s.data.toList.drop at_)) w) := by
  have hi : (at_ : Int) < (s.size : Int) := by omega
  have q2 : ((R : Int) + 1 == 0) = false := beq_eq_false_iff_ne.mpr (by omega)
  obtain ⟨i0, hi0, hz1, hz2, hz3⟩ := info_parts Tryz.info3
  have hdrop := drop_cons s at_ h
  rw [hc] at hdrop
  have HP := Lib.hid (parse_rest R c (s.data.toList.drop (at_ + 1)))
  have HRKS := fun n t ks d u => rest_kids (R := R) (c := c) (r := s.data.toList.drop (at_ + 1)) (n := n) (t := t) (ks := ks) (d := d) (u := u)
  rw [hdrop]
  obtain ⟨res, hres⟩ : ∃ res, kidsF (parse R) k [] 1 (s.data.toList.drop (at_ + 1)) = res := ⟨_, rfl⟩
  have hrest : restP R c (s.data.toList.drop (at_ + 1)) = toRest res := by
    unfold restP
    rw [if_neg C110, if_neg C116, if_neg C84, hk]
    show kidsO R k _ = _
    rw [res_kidsO, hres]
  obtain ⟨po, hpo⟩ : ∃ po, parse (R + 1) (c :: s.data.toList.drop (at_ + 1)) = po := ⟨_, rfl⟩
  rw [hpo] at HP ⊢
  have HPO : Hid (po = toTerm c res) := by
    show _ = _
    have := HP.out
    rw [hrest] at this
    rw [this]
    cases res with
    | none => rfl
    | some y => rfl
  have RK : Hid (∀ ks d u, res = some (ks, d, u) → (∀ k, arity c = some k → ks.length = k) ∧ ∀ x ∈ ks, x ≠ []) := fun ks d u e => HRKS 0 [] ks d u (by rw [hrest, e]; rfl)
  have HRES := Lib.hid hres
  have HPARTS := fun W => Lib.hid (parts_any W c)
  have hpi : partsI c = (k : Int) := by unfold partsI; rw [hk]
  rw [hpi] at HPARTS
  have hk32 : k ≤ 32 := by
    unfold arity at hk
    split at hk
    · cases hk; decide
    · split at hk
      · cases hk; decide
      · cases hk
  obtain ⟨x, hx⟩ : ∃ x : Int, (c.toNat : Int) = x := ⟨_, rfl⟩
  have ne : ∀ k : UInt8, c ≠ k → (c.toNat : Int) ≠ (k.toNat : Int) := fun k h h' => h (UInt8.toNat_inj.mp (by omega))
  have b110 : (x == 110) = false := beq_eq_false_iff_ne.mpr (by rw [← hx]; exact ne 110 C110)
  have b116 : (x == 116) = false := beq_eq_false_iff_ne.mpr (by rw [← hx]; exact ne 116 C116)
  have b84 : (x == 84) = false := beq_eq_false_iff_ne.mpr (by rw [← hx]; exact ne 84 C84)
  rw [hx] at HPARTS
  have hkn : ¬ (k : Int) < 0 := by omega
  obtain ⟨st, hste⟩ : ∃ st, at_ + 1 = st := ⟨_, rfl⟩
  have hst : st ≤ s.size := by omega
  have hsti : (at_ : Int) + 1 = (st : Int) := by omega
  rw [hste] at HRES
  clear hdrop hres hrest hpo ne HRKS hpi hk HP
  go_enter Tryz.func127, Tryz.ntmps127
  go_upto_region 1 with fail
  have Q0 := Lib.hid (heap_alloc_at w (.cells #[.int .i64 0, .int .i64 0, .int .u64 0, .int .i64 0, .slice none 0 0] 207))
  have B0 := Lib.hid (below_new' w (.cells #[.int .i64 0, .int .i64 0, .int .u64 0, .int .i64 0, .slice none 0 0] 207))
  generalize w.alloc (.cells #[.int .i64 0, .int .i64 0, .int .u64 0, .int .i64 0, .slice none 0 0] 207) = w0 at Q0 B0 ⊢
  obtain ⟨r6, hr6⟩ : ∃ r6, w.heap.size = r6 := ⟨_, rfl⟩
  have HR6 := Lib.hid hr6
  rw [hr6] at Q0 ⊢
  clear hr6
  have hz0 : r6 < w0.heap.size := (Array.getElem?_eq_some_iff.1 Q0.out).1
  go_upto_region 21 with (go_at_call 170; (with_reducible refine Calls.mono (HPARTS _).out ?_); rintro e w9 ⟨rfl, rfl⟩)
  go_upto_region 22 with fail
  have R1 : Hid ((w0.alloc (.cells #[I st] 3)).ownsRow (w.heap.size + 1) 3 1 (.slice (some ⟨w0.heap.size, 0, none⟩) 1 1) 1 [I st]) := one_row w0 (I st) _ (by have := HR6.out; omega) rfl
  have B2 : Hid (Below w.heap.size w ((w0.alloc (.cells #[I st] 3)).alloc (.cells #[.int .i64 0, .int .i64 1, .int .u64 0, .int .i64 0, .slice (some ⟨w0.heap.size, 0, none⟩) 1 1] 207))) := (B0.out.alloc B0.out.size _).alloc (by have := B0.out.size; simp; omega) _
  have Q2 : Hid (((w0.alloc (.cells #[I st] 3)).alloc (.cells #[.int .i64 0, .int .i64 1, .int .u64 0, .int .i64 0, .slice (some ⟨w0.heap.size, 0, none⟩) 1 1] 207)).heap[r6]? = some (.cells #[.int .i64 0, .int .i64 0, .int .u64 0, .int .i64 0, .slice none 0 0] 207 (0, 0))) := (Below.heap_alloc _ _ r6 (by simp; omega)).trans ((Below.heap_alloc w0 _ r6 hz0).trans Q0.out)
  have OC2 : Hid (Oc (w0.heap.size + 1) 0 1 (.slice (some ⟨w0.heap.size, 0, none⟩) 1 1) ((w0.alloc (.cells #[I st] 3)).alloc (.cells #[.int .i64 0, .int .i64 1, .int .u64 0, .int .i64 0, .slice (some ⟨w0.heap.size, 0, none⟩) 1 1] 207))) := by
    have := heap_alloc_at (w0.alloc (.cells #[I st] 3)) (.cells #[.int .i64 0, .int .i64 1, .int .u64 0, .int .i64 0, .slice (some ⟨w0.heap.size, 0, none⟩) 1 1] 207)
    rw [World.size_alloc] at this
    exact this
  have R2 : Hid (((w0.alloc (.cells #[I st] 3)).alloc (.cells #[.int .i64 0, .int .i64 1, .int .u64 0, .int .i64 0, .slice (some ⟨w0.heap.size, 0, none⟩) 1 1] 207)).ownsRow (w.heap.size + 1) 3 1 (.slice (some ⟨w0.heap.size, 0, none⟩) 1 1) 1 [I st]) := R1.out.alloc _
  have eI : (I st) = .int .i64 (st : Int) := rfl
  rw [eI] at B2 Q2 OC2 R2
  generalize (w0.alloc (.cells #[.int .i64 (st : Int)] 3)).alloc (.cells #[.int .i64 0, .int .i64 1, .int .u64 0, .int .i64 0, .slice (some ⟨w0.heap.size, 0, none⟩) 1 1] 207) = w2 at B2 Q2 OC2 R2 ⊢
  obtain ⟨kb, hkb⟩ : ∃ kb, w0.heap.size = kb := ⟨_, rfl⟩
  have hkw : w.heap.size < kb := by have := HR6.out; omega
  rw [hkb] at OC2 R2 hz0 ⊢
  clear hkb eI R1 Q0 B0
  obtain ⟨ob, hob⟩ : ∃ ob, kb + 1 = ob := ⟨_, rfl⟩
  have HOB := Lib.hid hob
  rw [hob] at OC2 ⊢
  clear hob
  have hobr : r6 < ob := by have := HOB.out; omega
  have hobw : w.heap.size < ob := by have := HOB.out; omega
  go_wp2_with fail
  go_loopw [12, 16] (fun nv iv wr => ∃ (j a dacc : Nat) (acc : List (List UInt8)) (o0 : Option Addr) (m0 c0' : Nat), j ≤ k ∧ iv = .int .i64 j ∧ nv = .int .i64 a ∧ a ≤ s.size ∧ acc.length = j ∧ dacc ≤ 65 ∧ Hid (kidsF (parse R) (k - j) acc dacc (s.data.toList.drop a) = res) ∧ Hid (OffInv s st acc a) ∧ Hid (Below w.heap.size w wr) ∧ Hid (wr.heap[r6]? = some (.cells #[.int .i64 0, .int .i64 0, .int .u64 0, .int .i64 0, .slice none 0 0] 207 (0, 0))) ∧ Hid (Oc ob 0 dacc (Value.slice o0 m0 c0') wr) ∧ Hid (wr.ownsRow (w.heap.size + 1) 3 1 (Value.slice o0 m0 c0') (j + 1) ((offs st acc).map I)) ∧ Hid ((Value.slice o0 m0 c0').ownBlock ≠ some ob)) (fun _ iv _ => k - (intOf iv).toNat)
  case atStart => exact ⟨0, st, 1, [], some ⟨kb, 0, none⟩, 1, 1, by omega, rfl, rfl, hst, rfl, by omega, HRES.out, ⟨rfl, rfl⟩, B2.out, Q2.out, OC2.out, R2.out, fun h => by have h1 : kb = ob := Option.some.inj h; have := HOB.out; omega⟩
  case round =>
    obtain ⟨j, a, dacc, acc, o0, m0, c0', hj, rfl, rfl, hja, hacc, hdacc, hF, hI, hB, hQ, hO, hown, hne⟩ := hrel
    by_cases hlt : j < k
    · have hji : (j : Int) < (k : Int) := by omega
      have hRR : (R : Int) + 1 - 1 = (R : Int) := by omega
      have hwo := hO.out.lt
      have HTA := Lib.hid (hT a wr hja)
      cases hp : parse R (s.data.toList.drop a) with
      | none =>
        rw [hp] at HTA
        have hres : res = none := by
          have h := hF.out
          rw [show k - j = (k - (j + 1)) + 1 by omega] at h
          simp only [kidsF, hp] at h
          exact h.symm
        obtain rfl : po = none := by have := HPO.out; rw [hres] at this; exact this
        clear hp hres
        go_wp2_with (first
          | (go_at_call 127; (with_reducible refine Calls.mono HTA.out ?_); rintro e w5 ⟨hb5, hno, _⟩; obtain ⟨xd, xn, xf, xo, xm, xc, rfl⟩ := hno rfl; have B5 : Hid (Below w.heap.size w (w5.alloc (.cells #[.int .i64 (-1), .int .i64 xd, .int .u64 xn, .int .i64 xf, .slice xo xm xc] 207))) := (hB.out.trans (hb5.mono hB.out.size)).alloc (by have := hB.out.size; have := hb5.size; omega) _; have Q5 : Hid ((w5.alloc (.cells #[.int .i64 (-1), .int .i64 xd, .int .u64 xn, .int .i64 xf, .slice xo xm xc] 207)).heap[r6]? = some (.cells #[.int .i64 0, .int .i64 0, .int .u64 0, .int .i64 0, .slice none 0 0] 207 (0, 0))) := (Below.heap_alloc w5 _ r6 (by have := hb5.size; omega)).trans ((hb5.block r6 (by omega)).trans hQ.out); clear hb5 hno)
          | (go_at_call 168; (with_reducible refine Calls.mono (none_any _) ?_); rintro e w9 ⟨hb9, rfl⟩; have B9 : Hid (Below w.heap.size w w9) := B5.out.trans (hb9.mono B5.out.size); have Q9 : Hid (w9.heap[r6]? = some (.cells #[.int .i64 0, .int .i64 0, .int .u64 0, .int .i64 0, .slice none 0 0] 207 (0, 0))) := (hb9.block r6 (Array.getElem?_eq_some_iff.1 Q5.out).1).trans Q5.out; clear hb9)
          | (with_reducible refine wpList_store_row rfl 207 (.tmp 6) (.tmp 120) rfl r6 #[.int .i64 (-1), .int .i64 0, .int .u64 0, .int .i64 0, .slice none 0 0] rfl rfl 207 #[.int .i64 0, .int .i64 0, .int .u64 0, .int .i64 0, .slice none 0 0] Q9.out (info5c _ _ _ _ _) (size5c _ _ _ _ _ _ _ _ _ _) (one5c _ _ _ _ _ _ _) ?_))
        have hl := run_loadVar_row (P := Tryz.prog) (w9.setRow r6 #[.int .i64 (-1), .int .i64 0, .int .u64 0, .int .i64 0, .slice none 0 0]) r6 207 207 #[.int .i64 (-1), .int .i64 0, .int .u64 0, .int .i64 0, .slice none 0 0] (0, 0) _ (setRow_heap w9 r6 _ _ 207 _ Q9.out) Tryz.underlying207 rfl (info5c _ _ _ _ _)
        exact bodyPost_ret (results_cell1 Tryz.results127 _ _ _ rfl hl) rfl ⟨below_setRow B9.out (by have := HR6.out; omega) _, fun _ => ⟨_, _, _, _, _, _, rfl⟩, fun x rest h => by cases h⟩
      | some y =>
        obtain ⟨x, rest⟩ := y
        rw [hp] at HTA
        obtain ⟨hr1, hr2, hr3⟩ := parse_drop hp
        have hnx := kids_next hF.out hlt hp hr2 (by omega) hr3 (list_size s)
        have hdp := (parse_deep R _ _ _ hp).2.1
        have HNX := Lib.hid hnx
        have HR2 := Lib.hid hr2
        obtain ⟨hin, hil⟩ := hI.out.next hr3 (by omega)
        have HIN := Lib.hid hin
        have HIL := Lib.hid hil
        clear hp hnx hr2 hin hil
        go_upto_region 28 with (go_at_call 127; (with_reducible refine Calls.mono HTA.out ?_); rintro e w5 ⟨hb5, _, hyes⟩; obtain ⟨xn, xf, xo, xm, xc, rfl, _⟩ := hyes x rest rfl; have BB5 := Lib.hid hb5; clear hb5 hyes)
        have hz5 := BB5.out.size
        have B6 : Hid (Below w.heap.size w (w5.alloc (.cells #[.int .i64 ((s.size - rest.length : Nat) : Int), .int .i64 x.deep, .int .u64 xn, .int .i64 xf, .slice xo xm xc] 207))) := (hB.out.trans (BB5.out.mono hB.out.size)).alloc (by have := hB.out.size; omega) _
        have Q6 : Hid ((w5.alloc (.cells #[.int .i64 ((s.size - rest.length : Nat) : Int), .int .i64 x.deep, .int .u64 xn, .int .i64 xf, .slice xo xm xc] 207)).heap[r6]? = some (.cells #[.int .i64 0, .int .i64 0, .int .u64 0, .int .i64 0, .slice none 0 0] 207 (0, 0))) := (Below.heap_alloc w5 _ r6 (by omega)).trans ((BB5.out.block r6 (by omega)).trans hQ.out)
        have O6 : Hid (Oc ob 0 dacc (Value.slice o0 m0 c0') (w5.alloc (.cells #[.int .i64 ((s.size - rest.length : Nat) : Int), .int .i64 x.deep, .int .u64 xn, .int .i64 xf, .slice xo xm xc] 207))) := (Below.heap_alloc w5 _ ob (by omega)).trans ((BB5.out.block ob (by omega)).trans hO.out)
        have W6 : Hid ((w5.alloc (.cells #[.int .i64 ((s.size - rest.length : Nat) : Int), .int .i64 x.deep, .int .u64 xn, .int .i64 xf, .slice xo xm xc] 207)).ownsRow (w.heap.size + 1) 3 1 (Value.slice o0 m0 c0') (j + 1) ((offs st acc).map I)) := (ownsRow_blocks hown.out (fun g hg => BB5.out.block g (hown.out.lt g hg).2)).alloc _
        have X6 := Lib.hid (heap_alloc_at w5 (.cells #[.int .i64 ((s.size - rest.length : Nat) : Int), .int .i64 x.deep, .int .u64 xn, .int .i64 xf, .slice xo xm xc] 207))
        have hobx : ob < w5.heap.size := by omega
        generalize w5.alloc (.cells #[.int .i64 ((s.size - rest.length : Nat) : Int), .int .i64 x.deep, .int .u64 xn, .int .i64 xf, .slice xo xm xc] 207) = w6 at B6 Q6 O6 W6 X6 ⊢
        obtain ⟨a', haa⟩ : ∃ a', s.size - rest.length = a' := ⟨_, rfl⟩
        have hsa : a' ≤ s.size := by omega
        rw [haa] at HNX HR2 HIN HIL X6 hr3 ⊢
        obtain ⟨dx, hdx⟩ : ∃ dx, x.deep = dx := ⟨_, rfl⟩
        rw [hdx] at HNX X6 hdp ⊢
        generalize w5.heap.size = x5 at X6 hobx ⊢
        clear haa hdx hwo hz5 BB5 hB hQ hO hown HTA hF hI
        obtain ⟨o_0, o_1, o_2, o_3, o_4⟩ := O6.out.c
        have of := fun o => O6.out.f o
        have x_0 : w6.cell? ⟨x5, 0, none⟩ = some (.int .i64 (a' : Int)) := by simp [World.cell?, X6.out]
        have x_1 : w6.cell? ⟨x5, 1, none⟩ = some (.int .i64 (dx : Int)) := by simp [World.cell?, X6.out]
        have hdx2 : (dx : Int) ≤ 64 := by omega
        go_upto_region 30 with fail
        have B7 : Hid (Below w.heap.size w (w6.setCell ⟨ob, 1, none⟩ (.int .i64 (max (dacc : Int) ((dx : Int) + 1))))) := B6.out.setCell (p := ⟨ob, 1, none⟩) (by show w.heap.size ≤ ob; omega) _
        have Q7 : Hid ((w6.setCell ⟨ob, 1, none⟩ (.int .i64 (max (dacc : Int) ((dx : Int) + 1)))).heap[r6]? = some (.cells #[.int .i64 0, .int .i64 0, .int .u64 0, .int .i64 0, .slice none 0 0] 207 (0, 0))) := (Below.heap_setCell w6 ⟨ob, 1, none⟩ _ r6 (by show r6 ≠ ob; omega)).trans Q6.out
        have O7 : Hid (Oc ob 0 (max (dacc : Int) ((dx : Int) + 1)) (Value.slice o0 m0 c0') (w6.setCell ⟨ob, 1, none⟩ (.int .i64 (max (dacc : Int) ((dx : Int) + 1))))) := heap_setCell_same w6 ob 1 _ 207 _ O6.out
        have W7 : Hid ((w6.setCell ⟨ob, 1, none⟩ (.int .i64 (max (dacc : Int) ((dx : Int) + 1)))).ownsRow (w.heap.size + 1) 3 1 (Value.slice o0 m0 c0') (j + 1) ((offs st acc).map I)) := ownsRow_blocks W6.out (fun g hg => Below.heap_setCell w6 ⟨ob, 1, none⟩ _ g (fun e => hne.out (by rw [hg]; exact congrArg some e)))
        generalize w6.setCell ⟨ob, 1, none⟩ (.int .i64 (max (dacc : Int) ((dx : Int) + 1))) = w7 at B7 Q7 O7 W7 ⊢
        clear o_0 o_1 o_2 o_3 o_4 of x_0 x_1 B6 Q6 O6 W6 X6
        obtain ⟨o_0, o_1, o_2, o_3, o_4⟩ := O7.out.c
        have hm0 : m0 = j + 1 := by
          rcases W7.out.2 with ⟨_, h⟩ | ⟨g, cap, cur, hv, _⟩
          · omega
          · cases hv; rfl
        subst hm0
        have hz7 := B7.out.size
        have hob7 := O7.out.lt
        go_wp2_with (at_builtin; refine wpList_append_lies _ rfl (.tmp 131) (.tmp 133) _ rfl (w.heap.size + 1) 3 i0 _ 1 8 Tryz.underlying205 hi0 hz1 hz2 hz3 rfl (by omega) (Value.slice o0 (j + 1) c0') (j + 1) ((offs st acc).map I) rfl (W7.out.alloc _) ⟨w7.heap.size, 0, none⟩ 1 1 [I a'] rfl rfl (World.news_of_block (cs := #[I a']) (t := 3) (fr := (0, 0)) (heap_alloc_at w7 _)) (by simp [I, Value.oneCell']) (by omega) (by unfold maxLen; omega) (by omega) (by simp; omega) (w7.heap.size + 1) (by simp) ?_; intro g cap w8 hown8 hgrow8 hat8 hlt8; have O8 : Hid (Oc ob 0 (max (dacc : Int) ((dx : Int) + 1)) (Value.slice o0 (j + 1) c0') w8) := (hgrow8.block ob (by simp; omega) (fun e => hne.out e.symm)).trans ((Below.heap_alloc w7 _ ob hob7).trans O7.out); have Q8 : Hid (w8.heap[r6]? = some (.cells #[.int .i64 0, .int .i64 0, .int .u64 0, .int .i64 0, .slice none 0 0] 207 (0, 0))) := (hgrow8.block r6 (by simp; omega) (fun e => by have := (W7.out.lt r6 e.symm).1; have := HR6.out; omega)).trans ((Below.heap_alloc w7 _ r6 (by omega)).trans Q7.out); have B8 : Hid (Below w.heap.size w w8) := (B7.out.alloc hz7 _).grown hgrow8 (by simp; omega) (fun g hg => by have := (W7.out.lt g hg).1; omega); have W8 := Lib.hid hown8; have A8 : Hid (g ≠ ob) := (by show g ≠ ob; intro e; rcases hat8 with h | h <;> first | exact hne.out (by rw [h, e]) | omega); obtain ⟨p_0, p_1, p_2, p_3, p_4⟩ := O8.out.c; have pf := (fun o => O8.out.f o); clear hown8 hgrow8 hat8 hlt8)
        go_roundw
        case rel =>
          refine ⟨j + 1, a', max dacc (dx + 1), acc ++ [(s.data.toList.drop a).take (a' - a)], some ⟨g, 0, none⟩, j + 1 + 1, cap, by omega, by go_num, rfl, hsa, by simp [hacc], by omega, HNX.out, HIN.out, B8.out.setCell (p := ⟨ob, 4, none⟩) (by show w.heap.size ≤ ob; omega) _, (Below.heap_setCell w8 ⟨ob, 4, none⟩ _ r6 (by show r6 ≠ ob; omega)).trans Q8.out, ?_, ?_, fun h => A8.out (by cases h; rfl)⟩
          · have := heap_setCell_same w8 ob 4 _ 207 (.slice (some ⟨g, 0, none⟩) (j + 1 + 1) cap) O8.out
            rw [Oc, show ((max dacc (dx + 1) : Nat) : Int) = max (dacc : Int) ((dx : Int) + 1) by omega]
            exact this
          · have e : (offs st (acc ++ [(s.data.toList.drop a).take (a' - a)])).map I = (offs st acc).map I ++ [I a'] := by
              rw [offs_snoc, List.map_append, HIL.out, List.map_cons, List.map_nil]
              have := HIN.out.2
              rw [List.flatten_append, List.length_append, List.flatten_cons, List.flatten_nil, List.append_nil, HIL.out] at this
              rw [show st + acc.flatten.length + (a' - a) = a' by omega]
            rw [e]
            exact ownsRow_blocks W8.out (fun g' hg => Below.heap_setCell w8 ⟨ob, 4, none⟩ _ g' (fun e => A8.out (by cases hg; exact e)))
        case measure => simp [intOf]; omega
    · obtain rfl : j = k := by omega
      have hji : ¬ (j : Int) < (j : Int) := by omega
      have hres : res = some (acc, dacc, s.data.toList.drop a) := by
        have h := hF.out
        rw [Nat.sub_self] at h
        exact h.symm
      have HPF : Hid (po = if fitsB c acc then some (⟨c, 0, [], acc, dacc⟩, s.data.toList.drop a) else none) := by have := HPO.out; rw [hres] at this; exact this
      have HRK := Lib.hid (RK.out acc dacc _ hres)
      obtain ⟨o_0, o_1, o_2, o_3, o_4⟩ := hO.out.c
      have of := fun o => hO.out.f o
      have hwo := hO.out.lt
      clear hres hF
      go_upto_region 32 with fail
      have B7 : Hid (Below w.heap.size w (wr.setCell ⟨ob, 0, none⟩ (.int .i64 (a : Int)))) := hB.out.setCell (p := ⟨ob, 0, none⟩) (by show w.heap.size ≤ ob; omega) _
      have Q7 : Hid ((wr.setCell ⟨ob, 0, none⟩ (.int .i64 (a : Int))).heap[r6]? = some (.cells #[.int .i64 0, .int .i64 0, .int .u64 0, .int .i64 0, .slice none 0 0] 207 (0, 0))) := (Below.heap_setCell wr ⟨ob, 0, none⟩ _ r6 (by show r6 ≠ ob; omega)).trans hQ.out
      have O7 : Hid (Oc ob a dacc (Value.slice o0 m0 c0') (wr.setCell ⟨ob, 0, none⟩ (.int .i64 (a : Int)))) := heap_setCell_same wr ob 0 _ 207 _ hO.out
      have W7 : Hid ((wr.setCell ⟨ob, 0, none⟩ (.int .i64 (a : Int))).ownsRow (w.heap.size + 1) 3 1 (Value.slice o0 m0 c0') (j + 1) ((offs st acc).map I)) := ownsRow_blocks hown.out (fun g hg => Below.heap_setCell wr ⟨ob, 0, none⟩ _ g (fun e => hne.out (by rw [hg]; exact congrArg some e)))
      generalize wr.setCell ⟨ob, 0, none⟩ (.int .i64 (a : Int)) = w7 at B7 Q7 O7 W7 ⊢
      clear o_0 o_1 o_2 o_3 o_4 of hB hQ hO hown
      obtain ⟨o_0, o_1, o_2, o_3, o_4⟩ := O7.out.c
      have HFIT := Lib.hid (rfits_any a dacc 0 0 (w.heap.size + 1) o0 m0 c0' at_ st s w7 c acc _ h hc hI.out.1 (by rw [hacc]; exact W7.out) HRK.out.1 HRK.out.2)
      have hr7 : r6 < w7.heap.size := (Array.getElem?_eq_some_iff.1 Q7.out).1
      have hz7 := B7.out.size
      have arm49 : True := trivial
      cases hfb : fitsB c acc with
      | false =>
        rw [hfb] at HFIT
        obtain rfl : po = none := by have := HPF.out; simpa [hfb] using this
        clear hfb
        go_wp2_with (first
          | (go_at_call 171; (with_reducible refine Calls.mono HFIT.out ?_); rintro e w8 ⟨hb8, rfl⟩; have B8 : Hid (Below w.heap.size w w8) := B7.out.trans (hb8.mono hz7); have Q8 : Hid (w8.heap[r6]? = some (.cells #[.int .i64 0, .int .i64 0, .int .u64 0, .int .i64 0, .slice none 0 0] 207 (0, 0))) := (hb8.block r6 hr7).trans Q7.out; clear hb8)
          | (go_at_call 168; (with_reducible refine Calls.mono (none_any _) ?_); rintro e w9 ⟨hb9, rfl⟩; have B9 : Hid (Below w.heap.size w w9) := B8.out.trans (hb9.mono B8.out.size); have Q9 : Hid (w9.heap[r6]? = some (.cells #[.int .i64 0, .int .i64 0, .int .u64 0, .int .i64 0, .slice none 0 0] 207 (0, 0))) := (hb9.block r6 (Array.getElem?_eq_some_iff.1 Q8.out).1).trans Q8.out; clear hb9)
          | (with_reducible refine wpList_store_row rfl 207 (.tmp 6) (.tmp 143) rfl r6 #[.int .i64 (-1), .int .i64 0, .int .u64 0, .int .i64 0, .slice none 0 0] rfl rfl 207 #[.int .i64 0, .int .i64 0, .int .u64 0, .int .i64 0, .slice none 0 0] Q9.out (info5c _ _ _ _ _) (size5c _ _ _ _ _ _ _ _ _ _) (one5c _ _ _ _ _ _ _) ?_))
        have hl := run_loadVar_row (P := Tryz.prog) (w9.setRow r6 #[.int .i64 (-1), .int .i64 0, .int .u64 0, .int .i64 0, .slice none 0 0]) r6 207 207 #[.int .i64 (-1), .int .i64 0, .int .u64 0, .int .i64 0, .slice none 0 0] (0, 0) _ (setRow_heap w9 r6 _ _ 207 _ Q9.out) Tryz.underlying207 rfl (info5c _ _ _ _ _)
        exact bodyPost_ret (results_cell1 Tryz.results127 _ _ _ rfl hl) rfl ⟨below_setRow B9.out (by have := HR6.out; omega) _, fun _ => ⟨_, _, _, _, _, _, rfl⟩, fun x rest h => by cases h⟩
      | true =>
        rw [hfb] at HFIT
        obtain rfl : po = some (⟨c, 0, [], acc, dacc⟩, s.data.toList.drop a) := by have := HPF.out; simpa [hfb] using this
        clear hfb
        go_wp2_with (first
          | (go_at_call 171; (with_reducible refine Calls.mono HFIT.out ?_); rintro e w8 ⟨hb8, rfl⟩; have B8 : Hid (Below w.heap.size w w8) := B7.out.trans (hb8.mono hz7); have Q8 : Hid (w8.heap[r6]? = some (.cells #[.int .i64 0, .int .i64 0, .int .u64 0, .int .i64 0, .slice none 0 0] 207 (0, 0))) := (hb8.block r6 hr7).trans Q7.out; have O8 : Hid (Oc ob a dacc (Value.slice o0 m0 c0') w8) := (hb8.block ob O7.out.lt).trans O7.out; have W8 : Hid (w8.ownsRow (w.heap.size + 1) 3 1 (Value.slice o0 m0 c0') (j + 1) ((offs st acc).map I)) := ownsRow_blocks W7.out (fun g hg => hb8.block g (W7.out.lt g hg).2); obtain ⟨p_0, p_1, p_2, p_3, p_4⟩ := O8.out.c; clear hb8)
          | (with_reducible refine wpList_store_row rfl 207 (.tmp 6) (.tmp 144) rfl r6 #[.int .i64 (a : Int), .int .i64 (dacc : Int), .int .u64 0, .int .i64 0, .slice o0 m0 c0'] rfl rfl 207 #[.int .i64 0, .int .i64 0, .int .u64 0, .int .i64 0, .slice none 0 0] Q8.out (info5c _ _ _ _ _) (size5c _ _ _ _ _ _ _ _ _ _) (one5c _ _ _ _ _ _ _) ?_))
        have hl := run_loadVar_row (P := Tryz.prog) (w8.setRow r6 #[.int .i64 (a : Int), .int .i64 (dacc : Int), .int .u64 0, .int .i64 0, .slice o0 m0 c0']) r6 207 207 #[.int .i64 (a : Int), .int .i64 (dacc : Int), .int .u64 0, .int .i64 0, .slice o0 m0 c0'] (0, 0) _ (setRow_heap w8 r6 _ _ 207 _ Q8.out) Tryz.underlying207 rfl (info5c _ _ _ _ _)
        refine bodyPost_ret (results_cell1 Tryz.results127 _ _ _ rfl hl) rfl ⟨below_setRow B8.out (by have := HR6.out; omega) _, (fun h => by cases h), fun x rest h' => ?_⟩
        cases h'
        refine ⟨0, 0, o0, m0, c0', ?_, fun h' => absurd h' C110, fun h' => absurd h' C116, .inr ⟨st, hI.out.1, own_base (ownsRow_blocks (by rw [hacc]; exact W8.out) (fun g hg => setRow_other w8 r6 g _ (fun e => by have := (W8.out.lt g hg).1; have := HR6.out; omega))) (Nat.le_succ _)⟩⟩
        rw [drop_len, show s.size - (s.size - a) = a by omega]; rfl
set_option maxRecDepth 100000 in
set_option maxHeartbeats 4000000 in
theorem rread_tuple (at_ R : Nat) (s : ByteArray) (w : World) (h : at_ < s.size) (hs : s.size ≤ 16384) (hR : R ≤ 63) (c : UInt8) (hc : s[at_] = c) (hc84 : c = 84) (hT : ∀ (a : Nat) (W : World), a ≤ s.size → Calls Tryz.prog 127 #[.string s, .int .i64 a, .int .i64 R] W (CutPost s (parse R (s.data.toList.drop a)) W)) :
    Calls Tryz.prog 127 #[.string s, .int .i64 at_, .int .i64 ((R : Int) + 1)] w (CutPost s (parse (R + 1) (s.data.toList.drop at_)) w) := by
  have C110 : c ≠ 110 := by rw [hc84]; decide
  have C116 : c ≠ 116 := by rw [hc84]; decide
  have hi : (at_ : Int) < (s.size : Int) := by omega
  have q2 : ((R : Int) + 1 == 0) = false := beq_eq_false_iff_ne.mpr (by omega)
  obtain ⟨i0, hi0, hz1, hz2, hz3⟩ := info_parts Tryz.info3
  have hdrop := drop_cons s at_ h
  rw [hc] at hdrop
  have HP := Lib.hid (parse_rest R c (s.data.toList.drop (at_ + 1)))
  have HRKS := fun n t ks d u => rest_kids (R := R) (c := c) (r := s.data.toList.drop (at_ + 1)) (n := n) (t := t) (ks := ks) (d := d) (u := u)
  rw [hdrop]
  have HN := fun W => Lib.hid (rnumber_any s (at_ + 1) 58 58 rfl (by decide) W (by omega) (by omega))
  have hnd := fun n r => num_drop (E := 58) (s := s) (a := at_ + 1) (n := n) (r := r)
  obtain ⟨po, hpo⟩ : ∃ po, parse (R + 1) (c :: s.data.toList.drop (at_ + 1)) = po := ⟨_, rfl⟩
  rw [hpo] at HP ⊢
  have hrest : restP R c (s.data.toList.drop (at_ + 1)) = tupleO R (s.data.toList.drop (at_ + 1)) := by
    unfold restP
    rw [if_neg C110, if_neg C116, if_pos hc84]
  have HPARTS := fun W => Lib.hid (parts_any W c)
  have hpi : partsI c = -1 := by rw [hc84]; rfl
  rw [hpi] at HPARTS
  have hx : ((c.toNat : Nat) : Int) = 84 := by rw [hc84]; rfl
  rw [hx] at HPARTS
  have hc' : ((s[at_].toNat : Nat) : Int) = 84 := by rw [hc]; exact hx
  cases ho : num 58 (s.data.toList.drop (at_ + 1)) with
  | none =>
    rw [ho] at HN
    obtain rfl : po = none := by have := HP.out; rw [hrest] at this; simpa [tupleO, ho] using this
    have HN : Hid (∀ W, Calls Tryz.prog 169 #[.string s, .int .i64 ((at_ : Int) + 1), .int .u8 58] W fun e w' => W = w' ∧ e = .returned (.tuple #[.int .u64 0, .int .i64 (-1)])) := HN
    clear ho hnd hdrop hrest hpo HRKS hpi
    go_enter Tryz.func127, Tryz.ntmps127
    go_upto_region 1 with fail
    have Q0 := Lib.hid (heap_alloc_at w (.cells #[.int .i64 0, .int .i64 0, .int .u64 0, .int .i64 0, .slice none 0 0] 207))
    have B0 := Lib.hid (below_new' w (.cells #[.int .i64 0, .int .i64 0, .int .u64 0, .int .i64 0, .slice none 0 0] 207))
    generalize w.alloc (.cells #[.int .i64 0, .int .i64 0, .int .u64 0, .int .i64 0, .slice none 0 0] 207) = w0 at Q0 B0 ⊢
    obtain ⟨r6, hr6⟩ : ∃ r6, w.heap.size = r6 := ⟨_, rfl⟩
    have HR6 := Lib.hid hr6
    rw [hr6] at Q0 ⊢
    clear hr6
    have hz0 : r6 < w0.heap.size := (Array.getElem?_eq_some_iff.1 Q0.out).1
    go_wp2_with (first
      | (go_at_call 170; (with_reducible refine Calls.mono (HPARTS _).out ?_); rintro e w9 ⟨rfl, rfl⟩)
      | (go_at_call 169; (with_reducible refine Calls.mono (HN.out _) ?_); rintro e w8 ⟨rfl, rfl⟩)
      | (go_at_call 168; (with_reducible refine Calls.mono (none_any _) ?_); rintro e w9 ⟨hb9, rfl⟩; have B9 : Hid (Below w.heap.size w w9) := B0.out.trans (hb9.mono B0.out.size); have Q9 : Hid (w9.heap[r6]? = some (.cells #[.int .i64 0, .int .i64 0, .int .u64 0, .int .i64 0, .slice none 0 0] 207 (0, 0))) := (hb9.block r6 (Array.getElem?_eq_some_iff.1 Q0.out).1).trans Q0.out; clear hb9)
      | (with_reducible refine wpList_store_row rfl 207 (.tmp 6) (.tmp 97) rfl r6 #[.int .i64 (-1), .int .i64 0, .int .u64 0, .int .i64 0, .slice none 0 0] rfl rfl 207 #[.int .i64 0, .int .i64 0, .int .u64 0, .int .i64 0, .slice none 0 0] Q9.out (info5c _ _ _ _ _) (size5c _ _ _ _ _ _ _ _ _ _) (one5c _ _ _ _ _ _ _) ?_))
    have hl := run_loadVar_row (P := Tryz.prog) (w9.setRow r6 #[.int .i64 (-1), .int .i64 0, .int .u64 0, .int .i64 0, .slice none 0 0]) r6 207 207 #[.int .i64 (-1), .int .i64 0, .int .u64 0, .int .i64 0, .slice none 0 0] (0, 0) _ (setRow_heap w9 r6 _ _ 207 _ Q9.out) Tryz.underlying207 rfl (info5c _ _ _ _ _)
    exact bodyPost_ret (results_cell1 Tryz.results127 _ _ _ rfl hl) rfl ⟨below_setRow B9.out (by have := HR6.out; omega) _, fun _ => ⟨_, _, _, _, _, _, rfl⟩, fun x rest h => by cases h⟩
  | some y0 =>
    obtain ⟨k, r⟩ := y0
    rw [ho] at HN
    obtain ⟨hrl, hrd⟩ := hnd k r ho
    have HN : Hid (∀ W, Calls Tryz.prog 169 #[.string s, .int .i64 ((at_ : Int) + 1), .int .u8 58] W fun e w' => W = w' ∧ e = .returned (.tuple #[.int .u64 k, .int .i64 ((s.size - r.length : Nat) : Int)])) := HN
    obtain ⟨st, hste⟩ : ∃ st, s.size - r.length = st := ⟨_, rfl⟩
    have hst : st ≤ s.size := by omega
    rw [hste] at HN hrd
    have hstn : ¬ (st : Int) < 0 := by omega
    by_cases hk32 : k ≤ 32
    · obtain ⟨res, hres⟩ : ∃ res, kidsF (parse R) k [] 1 (s.data.toList.drop st) = res := ⟨_, rfl⟩
      have hrest2 : restP R c (s.data.toList.drop (at_ + 1)) = toRest res := by
        rw [hrest]
        unfold tupleO
        rw [ho]
        show (if k ≤ 32 then kidsO R k r else none) = _
        rw [if_pos hk32, ← hrd, res_kidsO, hres]
      have HPO : Hid (po = toTerm c res) := by
        show _ = _
        have := HP.out
        rw [hrest2] at this
        rw [this]
        cases res with
        | none => rfl
        | some y => rfl
      have RK : Hid (∀ ks d u, res = some (ks, d, u) → (∀ k, arity c = some k → ks.length = k) ∧ ∀ x ∈ ks, x ≠ []) := fun ks d u e => HRKS 0 [] ks d u (by rw [hrest2, e]; rfl)
      have HRES := Lib.hid hres
      have hk1 : ¬ 32 < (k : Int) := by omega
      have hk2 : (k : Int) ≤ 32 := by omega
      have hk3 : ¬ (k : Int) < 0 := by omega
      clear ho hnd hdrop hrest hrest2 hpo HRKS hpi hres hste hrd HP
      go_enter Tryz.func127, Tryz.ntmps127
      go_upto_region 1 with fail
      have Q0 := Lib.hid (heap_alloc_at w (.cells #[.int .i64 0, .int .i64 0, .int .u64 0, .int .i64 0, .slice none 0 0] 207))
      have B0 := Lib.hid (below_new' w (.cells #[.int .i64 0, .int .i64 0, .int .u64 0, .int .i64 0, .slice none 0 0] 207))
      generalize w.alloc (.cells #[.int .i64 0, .int .i64 0, .int .u64 0, .int .i64 0, .slice none 0 0] 207) = w0 at Q0 B0 ⊢
      obtain ⟨r6, hr6⟩ : ∃ r6, w.heap.size = r6 := ⟨_, rfl⟩
      have HR6 := Lib.hid hr6
      rw [hr6] at Q0 ⊢
      clear hr6
      have hz0 : r6 < w0.heap.size := (Array.getElem?_eq_some_iff.1 Q0.out).1
      go_upto_region 21 with (first
        | (go_at_call 170; (with_reducible refine Calls.mono (HPARTS _).out ?_); rintro e w9 ⟨rfl, rfl⟩)
        | (go_at_call 169; (with_reducible refine Calls.mono (HN.out _) ?_); rintro e w8 ⟨rfl, rfl⟩))
      go_upto_region 22 with fail
      have R1 : Hid ((w0.alloc (.cells #[I st] 3)).ownsRow (w.heap.size + 1) 3 1 (.slice (some ⟨w0.heap.size, 0, none⟩) 1 1) 1 [I st]) := one_row w0 (I st) _ (by have := HR6.out; omega) rfl
      have B2 : Hid (Below w.heap.size w ((w0.alloc (.cells #[I st] 3)).alloc (.cells #[.int .i64 0, .int .i64 1, .int .u64 0, .int .i64 0, .slice (some ⟨w0.heap.size, 0, none⟩) 1 1] 207))) := (B0.out.alloc B0.out.size _).alloc (by have := B0.out.size; simp; omega) _
      have Q2 : Hid (((w0.alloc (.cells #[I st] 3)).alloc (.cells #[.int .i64 0, .int .i64 1, .int .u64 0, .int .i64 0, .slice (some ⟨w0.heap.size, 0, none⟩) 1 1] 207)).heap[r6]? = some (.cells #[.int .i64 0, .int .i64 0, .int .u64 0, .int .i64 0, .slice none 0 0] 207 (0, 0))) := (Below.heap_alloc _ _ r6 (by simp; omega)).trans ((Below.heap_alloc w0 _ r6 hz0).trans Q0.out)
      have OC2 : Hid (Oc (w0.heap.size + 1) 0 1 (.slice (some ⟨w0.heap.size, 0, none⟩) 1 1) ((w0.alloc (.cells #[I st] 3)).alloc (.cells #[.int .i64 0, .int .i64 1, .int .u64 0, .int .i64 0, .slice (some ⟨w0.heap.size, 0, none⟩) 1 1] 207))) := by
        have := heap_alloc_at (w0.alloc (.cells #[I st] 3)) (.cells #[.int .i64 0, .int .i64 1, .int .u64 0, .int .i64 0, .slice (some ⟨w0.heap.size, 0, none⟩) 1 1] 207)
        rw [World.size_alloc] at this
        exact this
      have R2 : Hid (((w0.alloc (.cells #[I st] 3)).alloc (.cells #[.int .i64 0, .int .i64 1, .int .u64 0, .int .i64 0, .slice (some ⟨w0.heap.size, 0, none⟩) 1 1] 207)).ownsRow (w.heap.size + 1) 3 1 (.slice (some ⟨w0.heap.size, 0, none⟩) 1 1) 1 [I st]) := R1.out.alloc _
      have eI : (I st) = .int .i64 (st : Int) := rfl
      rw [eI] at B2 Q2 OC2 R2
      generalize (w0.alloc (.cells #[.int .i64 (st : Int)] 3)).alloc (.cells #[.int .i64 0, .int .i64 1, .int .u64 0, .int .i64 0, .slice (some ⟨w0.heap.size, 0, none⟩) 1 1] 207) = w2 at B2 Q2 OC2 R2 ⊢
      obtain ⟨kb, hkb⟩ : ∃ kb, w0.heap.size = kb := ⟨_, rfl⟩
      have hkw : w.heap.size < kb := by have := HR6.out; omega
      rw [hkb] at OC2 R2 hz0 ⊢
      clear hkb eI R1 Q0 B0
      obtain ⟨ob, hob⟩ : ∃ ob, kb + 1 = ob := ⟨_, rfl⟩
      have HOB := Lib.hid hob
      rw [hob] at OC2 ⊢
      clear hob
      have hobr : r6 < ob := by have := HOB.out; omega
      have hobw : w.heap.size < ob := by have := HOB.out; omega
      go_wp2_with fail
      go_loopw [12, 16] (fun nv iv wr => ∃ (j a dacc : Nat) (acc : List (List UInt8)) (o0 : Option Addr) (m0 c0' : Nat), j ≤ k ∧ iv = .int .i64 j ∧ nv = .int .i64 a ∧ a ≤ s.size ∧ acc.length = j ∧ dacc ≤ 65 ∧ Hid (kidsF (parse R) (k - j) acc dacc (s.data.toList.drop a) = res) ∧ Hid (OffInv s st acc a) ∧ Hid (Below w.heap.size w wr) ∧ Hid (wr.heap[r6]? = some (.cells #[.int .i64 0, .int .i64 0, .int .u64 0, .int .i64 0, .slice none 0 0] 207 (0, 0))) ∧ Hid (Oc ob 0 dacc (Value.slice o0 m0 c0') wr) ∧ Hid (wr.ownsRow (w.heap.size + 1) 3 1 (Value.slice o0 m0 c0') (j + 1) ((offs st acc).map I)) ∧ Hid ((Value.slice o0 m0 c0').ownBlock ≠ some ob)) (fun _ iv _ => k - (intOf iv).toNat)
      case atStart => exact ⟨0, st, 1, [], some ⟨kb, 0, none⟩, 1, 1, by omega, rfl, rfl, hst, rfl, by omega, HRES.out, ⟨rfl, rfl⟩, B2.out, Q2.out, OC2.out, R2.out, fun h => by have h1 : kb = ob := Option.some.inj h; have := HOB.out; omega⟩
      case round =>
        obtain ⟨j, a, dacc, acc, o0, m0, c0', hj, rfl, rfl, hja, hacc, hdacc, hF, hI, hB, hQ, hO, hown, hne⟩ := hrel
        by_cases hlt : j < k
        · have hji : (j : Int) < (k : Int) := by omega
          have hRR : (R : Int) + 1 - 1 = (R : Int) := by omega
          have hwo := hO.out.lt
          have HTA := Lib.hid (hT a wr hja)
          cases hp : parse R (s.data.toList.drop a) with
          | none =>
            rw [hp] at HTA
            have hres : res = none := by
              have h := hF.out
              rw [show k - j = (k - (j + 1)) + 1 by omega] at h
              simp only [kidsF, hp] at h
              exact h.symm
            obtain rfl : po = none := by have := HPO.out; rw [hres] at this; exact this
            clear hp hres
            go_wp2_with (first
              | (go_at_call 127; (with_reducible refine Calls.mono HTA.out ?_); rintro e w5 ⟨hb5, hno, _⟩; obtain ⟨xd, xn, xf, xo, xm, xc, rfl⟩ := hno rfl; have B5 : Hid (Below w.heap.size w (w5.alloc (.cells #[.int .i64 (-1), .int .i64 xd, .int .u64 xn, .int .i64 xf, .slice xo xm xc] 207))) := (hB.out.trans (hb5.mono hB.out.size)).alloc (by have := hB.out.size; have := hb5.size; omega) _; have Q5 : Hid ((w5.alloc (.cells #[.int .i64 (-1), .int .i64 xd, .int .u64 xn, .int .i64 xf, .slice xo xm xc] 207)).heap[r6]? = some (.cells #[.int .i64 0, .int .i64 0, .int .u64 0, .int .i64 0, .slice none 0 0] 207 (0, 0))) := (Below.heap_alloc w5 _ r6 (by have := hb5.size; omega)).trans ((hb5.block r6 (by omega)).trans hQ.out); clear hb5 hno)
              | (go_at_call 168; (with_reducible refine Calls.mono (none_any _) ?_); rintro e w9 ⟨hb9, rfl⟩; have B9 : Hid (Below w.heap.size w w9) := B5.out.trans (hb9.mono B5.out.size); have Q9 : Hid (w9.heap[r6]? = some (.cells #[.int .i64 0, .int .i64 0, .int .u64 0, .int .i64 0, .slice none 0 0] 207 (0, 0))) := (hb9.block r6 (Array.getElem?_eq_some_iff.1 Q5.out).1).trans Q5.out; clear hb9)
              | (with_reducible refine wpList_store_row rfl 207 (.tmp 6) (.tmp 120) rfl r6 #[.int .i64 (-1), .int .i64 0, .int .u64 0, .int .i64 0, .slice none 0 0] rfl rfl 207 #[.int .i64 0, .int .i64 0, .int .u64 0, .int .i64 0, .slice none 0 0] Q9.out (info5c _ _ _ _ _) (size5c _ _ _ _ _ _ _ _ _ _) (one5c _ _ _ _ _ _ _) ?_))
            have hl := run_loadVar_row (P := Tryz.prog) (w9.setRow r6 #[.int .i64 (-1), .int .i64 0, .int .u64 0, .int .i64 0, .slice none 0 0]) r6 207 207 #[.int .i64 (-1), .int .i64 0, .int .u64 0, .int .i64 0, .slice none 0 0] (0, 0) _ (setRow_heap w9 r6 _ _ 207 _ Q9.out) Tryz.underlying207 rfl (info5c _ _ _ _ _)
            exact bodyPost_ret (results_cell1 Tryz.results127 _ _ _ rfl hl) rfl ⟨below_setRow B9.out (by have := HR6.out; omega) _, fun _ => ⟨_, _, _, _, _, _, rfl⟩, fun x rest h => by cases h⟩
          | some y =>
            obtain ⟨x, rest⟩ := y
            rw [hp] at HTA
            obtain ⟨hr1, hr2, hr3⟩ := parse_drop hp
            have hnx := kids_next hF.out hlt hp hr2 (by omega) hr3 (list_size s)
            have hdp := (parse_deep R _ _ _ hp).2.1
            have HNX := Lib.hid hnx
            have HR2 := Lib.hid hr2
            obtain ⟨hin, hil⟩ := hI.out.next hr3 (by omega)
            have HIN := Lib.hid hin
            have HIL := Lib.hid hil
            clear hp hnx hr2 hin hil
            go_upto_region 28 with (go_at_call 127; (with_reducible refine Calls.mono HTA.out ?_); rintro e w5 ⟨hb5, _, hyes⟩; obtain ⟨xn, xf, xo, xm, xc, rfl, _⟩ := hyes x rest rfl; have BB5 := Lib.hid hb5; clear hb5 hyes)
            have hz5 := BB5.out.size
            have B6 : Hid (Below w.heap.size w (w5.alloc (.cells #[.int .i64 ((s.size - rest.length : Nat) : Int), .int .i64 x.deep, .int .u64 xn, .int .i64 xf, .slice xo xm xc] 207))) := (hB.out.trans (BB5.out.mono hB.out.size)).alloc (by have := hB.out.size; omega) _
            have Q6 : Hid ((w5.alloc (.cells #[.int .i64 ((s.size - rest.length : Nat) : Int), .int .i64 x.deep, .int .u64 xn, .int .i64 xf, .slice xo xm xc] 207)).heap[r6]? = some (.cells #[.int .i64 0, .int .i64 0, .int .u64 0, .int .i64 0, .slice none 0 0] 207 (0, 0))) := (Below.heap_alloc w5 _ r6 (by omega)).trans ((BB5.out.block r6 (by omega)).trans hQ.out)
            have O6 : Hid (Oc ob 0 dacc (Value.slice o0 m0 c0') (w5.alloc (.cells #[.int .i64 ((s.size - rest.length : Nat) : Int), .int .i64 x.deep, .int .u64 xn, .int .i64 xf, .slice xo xm xc] 207))) := (Below.heap_alloc w5 _ ob (by omega)).trans ((BB5.out.block ob (by omega)).trans hO.out)
            have W6 : Hid ((w5.alloc (.cells #[.int .i64 ((s.size - rest.length : Nat) : Int), .int .i64 x.deep, .int .u64 xn, .int .i64 xf, .slice xo xm xc] 207)).ownsRow (w.heap.size + 1) 3 1 (Value.slice o0 m0 c0') (j + 1) ((offs st acc).map I)) := (ownsRow_blocks hown.out (fun g hg => BB5.out.block g (hown.out.lt g hg).2)).alloc _
            have X6 := Lib.hid (heap_alloc_at w5 (.cells #[.int .i64 ((s.size - rest.length : Nat) : Int), .int .i64 x.deep, .int .u64 xn, .int .i64 xf, .slice xo xm xc] 207))
            have hobx : ob < w5.heap.size := by omega
            generalize w5.alloc (.cells #[.int .i64 ((s.size - rest.length : Nat) : Int), .int .i64 x.deep, .int .u64 xn, .int .i64 xf, .slice xo xm xc] 207) = w6 at B6 Q6 O6 W6 X6 ⊢
            obtain ⟨a', haa⟩ : ∃ a', s.size - rest.length = a' := ⟨_, rfl⟩
            have hsa : a' ≤ s.size := by omega
            rw [haa] at HNX HR2 HIN HIL X6 hr3 ⊢
            obtain ⟨dx, hdx⟩ : ∃ dx, x.deep = dx := ⟨_, rfl⟩
            rw [hdx] at HNX X6 hdp ⊢
            generalize w5.heap.size = x5 at X6 hobx ⊢
            clear haa hdx hwo hz5 BB5 hB hQ hO hown HTA hF hI
            obtain ⟨o_0, o_1, o_2, o_3, o_4⟩ := O6.out.c
            have of := fun o => O6.out.f o
            have x_0 : w6.cell? ⟨x5, 0, none⟩ = some (.int .i64 (a' : Int)) := by simp [World.cell?, X6.out]
            have x_1 : w6.cell? ⟨x5, 1, none⟩ = some (.int .i64 (dx : Int)) := by simp [World.cell?, X6.out]
            have hdx2 : (dx : Int) ≤ 64 := by omega
            go_upto_region 30 with fail
            have B7 : Hid (Below w.heap.size w (w6.setCell ⟨ob, 1, none⟩ (.int .i64 (max (dacc : Int) ((dx : Int) + 1))))) := B6.out.setCell (p := ⟨ob, 1, none⟩) (by show w.heap.size ≤ ob; omega) _
            have Q7 : Hid ((w6.setCell ⟨ob, 1, none⟩ (.int .i64 (max (dacc : Int) ((dx : Int) + 1)))).heap[r6]? = some (.cells #[.int .i64 0, .int .i64 0, .int .u64 0, .int .i64 0, .slice none 0 0] 207 (0, 0))) := (Below.heap_setCell w6 ⟨ob, 1, none⟩ _ r6 (by show r6 ≠ ob; omega)).trans Q6.out
            have O7 : Hid (Oc ob 0 (max (dacc : Int) ((dx : Int) + 1)) (Value.slice o0 m0 c0') (w6.setCell ⟨ob, 1, none⟩ (.int .i64 (max (dacc : Int) ((dx : Int) + 1))))) := heap_setCell_same w6 ob 1 _ 207 _ O6.out
            have W7 : Hid ((w6.setCell ⟨ob, 1, none⟩ (.int .i64 (max (dacc : Int) ((dx : Int) + 1)))).ownsRow (w.heap.size + 1) 3 1 (Value.slice o0 m0 c0') (j + 1) ((offs st acc).map I)) := ownsRow_blocks W6.out (fun g hg => Below.heap_setCell w6 ⟨ob, 1, none⟩ _ g (fun e => hne.out (by rw [hg]; exact congrArg some e)))
            generalize w6.setCell ⟨ob, 1, none⟩ (.int .i64 (max (dacc : Int) ((dx : Int) + 1))) = w7 at B7 Q7 O7 W7 ⊢
            clear o_0 o_1 o_2 o_3 o_4 of x_0 x_1 B6 Q6 O6 W6 X6
            obtain ⟨o_0, o_1, o_2, o_3, o_4⟩ := O7.out.c
            have hm0 : m0 = j + 1 := by
              rcases W7.out.2 with ⟨_, h⟩ | ⟨g, cap, cur, hv, _⟩
              · omega
              · cases hv; rfl
            subst hm0
            have hz7 := B7.out.size
            have hob7 := O7.out.lt
            go_wp2_with (at_builtin; refine wpList_append_lies _ rfl (.tmp 131) (.tmp 133) _ rfl (w.heap.size + 1) 3 i0 _ 1 8 Tryz.underlying205 hi0 hz1 hz2 hz3 rfl (by omega) (Value.slice o0 (j + 1) c0') (j + 1) ((offs st acc).map I) rfl (W7.out.alloc _) ⟨w7.heap.size, 0, none⟩ 1 1 [I a'] rfl rfl (World.news_of_block (cs := #[I a']) (t := 3) (fr := (0, 0)) (heap_alloc_at w7 _)) (by simp [I, Value.oneCell']) (by omega) (by unfold maxLen; omega) (by omega) (by simp; omega) (w7.heap.size + 1) (by simp) ?_; intro g cap w8 hown8 hgrow8 hat8 hlt8; have O8 : Hid (Oc ob 0 (max (dacc : Int) ((dx : Int) + 1)) (Value.slice o0 (j + 1) c0') w8) := (hgrow8.block ob (by simp; omega) (fun e => hne.out e.symm)).trans ((Below.heap_alloc w7 _ ob hob7).trans O7.out); have Q8 : Hid (w8.heap[r6]? = some (.cells #[.int .i64 0, .int .i64 0, .int .u64 0, .int .i64 0, .slice none 0 0] 207 (0, 0))) := (hgrow8.block r6 (by simp; omega) (fun e => by have := (W7.out.lt r6 e.symm).1; have := HR6.out; omega)).trans ((Below.heap_alloc w7 _ r6 (by omega)).trans Q7.out); have B8 : Hid (Below w.heap.size w w8) := (B7.out.alloc hz7 _).grown hgrow8 (by simp; omega) (fun g hg => by have := (W7.out.lt g hg).1; omega); have W8 := Lib.hid hown8; have A8 : Hid (g ≠ ob) := (by show g ≠ ob; intro e; rcases hat8 with h | h <;> first | exact hne.out (by rw [h, e]) | omega); obtain ⟨p_0, p_1, p_2, p_3, p_4⟩ := O8.out.c; have pf := (fun o => O8.out.f o); clear hown8 hgrow8 hat8 hlt8)
            go_roundw
            case rel =>
              refine ⟨j + 1, a', max dacc (dx + 1), acc ++ [(s.data.toList.drop a).take (a' - a)], some ⟨g, 0, none⟩, j + 1 + 1, cap, by omega, by go_num, rfl, hsa, by simp [hacc], by omega, HNX.out, HIN.out, B8.out.setCell (p := ⟨ob, 4, none⟩) (by show w.heap.size ≤ ob; omega) _, (Below.heap_setCell w8 ⟨ob, 4, none⟩ _ r6 (by show r6 ≠ ob; omega)).trans Q8.out, ?_, ?_, fun h => A8.out (by cases h; rfl)⟩
              · have := heap_setCell_same w8 ob 4 _ 207 (.slice (some ⟨g, 0, none⟩) (j + 1 + 1) cap) O8.out
                rw [Oc, show ((max dacc (dx + 1) : Nat) : Int) = max (dacc : Int) ((dx : Int) + 1) by omega]
                exact this
              · have e : (offs st (acc ++ [(s.data.toList.drop a).take (a' - a)])).map I = (offs st acc).map I ++ [I a'] := by
                  rw [offs_snoc, List.map_append, HIL.out, List.map_cons, List.map_nil]
                  have := HIN.out.2
                  rw [List.flatten_append, List.length_append, List.flatten_cons, List.flatten_nil, List.append_nil, HIL.out] at this
                  rw [show st + acc.flatten.length + (a' - a) = a' by omega]
                rw [e]
                exact ownsRow_blocks W8.out (fun g' hg => Below.heap_setCell w8 ⟨ob, 4, none⟩ _ g' (fun e => A8.out (by cases hg; exact e)))
            case measure => simp [intOf]; omega
        · obtain rfl : j = k := by omega
          have hji : ¬ (j : Int) < (j : Int) := by omega
          have hres : res = some (acc, dacc, s.data.toList.drop a) := by
            have h := hF.out
            rw [Nat.sub_self] at h
            exact h.symm
          have HPF : Hid (po = if fitsB c acc then some (⟨c, 0, [], acc, dacc⟩, s.data.toList.drop a) else none) := by have := HPO.out; rw [hres] at this; exact this
          have HRK := Lib.hid (RK.out acc dacc _ hres)
          obtain ⟨o_0, o_1, o_2, o_3, o_4⟩ := hO.out.c
          have of := fun o => hO.out.f o
          have hwo := hO.out.lt
          clear hres hF
          go_upto_region 32 with fail
          have B7 : Hid (Below w.heap.size w (wr.setCell ⟨ob, 0, none⟩ (.int .i64 (a : Int)))) := hB.out.setCell (p := ⟨ob, 0, none⟩) (by show w.heap.size ≤ ob; omega) _
          have Q7 : Hid ((wr.setCell ⟨ob, 0, none⟩ (.int .i64 (a : Int))).heap[r6]? = some (.cells #[.int .i64 0, .int .i64 0, .int .u64 0, .int .i64 0, .slice none 0 0] 207 (0, 0))) := (Below.heap_setCell wr ⟨ob, 0, none⟩ _ r6 (by show r6 ≠ ob; omega)).trans hQ.out
          have O7 : Hid (Oc ob a dacc (Value.slice o0 m0 c0') (wr.setCell ⟨ob, 0, none⟩ (.int .i64 (a : Int)))) := heap_setCell_same wr ob 0 _ 207 _ hO.out
          have W7 : Hid ((wr.setCell ⟨ob, 0, none⟩ (.int .i64 (a : Int))).ownsRow (w.heap.size + 1) 3 1 (Value.slice o0 m0 c0') (j + 1) ((offs st acc).map I)) := ownsRow_blocks hown.out (fun g hg => Below.heap_setCell wr ⟨ob, 0, none⟩ _ g (fun e => hne.out (by rw [hg]; exact congrArg some e)))
          generalize wr.setCell ⟨ob, 0, none⟩ (.int .i64 (a : Int)) = w7 at B7 Q7 O7 W7 ⊢
          clear o_0 o_1 o_2 o_3 o_4 of hB hQ hO hown
          obtain ⟨o_0, o_1, o_2, o_3, o_4⟩ := O7.out.c
          have HFIT := Lib.hid (rfits_any a dacc 0 0 (w.heap.size + 1) o0 m0 c0' at_ st s w7 c acc _ h hc hI.out.1 (by rw [hacc]; exact W7.out) HRK.out.1 HRK.out.2)
          have hr7 : r6 < w7.heap.size := (Array.getElem?_eq_some_iff.1 Q7.out).1
          have hz7 := B7.out.size
          have arm49 : True := trivial
          cases hfb : fitsB c acc with
          | false =>
            rw [hfb] at HFIT
            obtain rfl : po = none := by have := HPF.out; simpa [hfb] using this
            clear hfb
            go_wp2_with (first
              | (go_at_call 171; (with_reducible refine Calls.mono HFIT.out ?_); rintro e w8 ⟨hb8, rfl⟩; have B8 : Hid (Below w.heap.size w w8) := B7.out.trans (hb8.mono hz7); have Q8 : Hid (w8.heap[r6]? = some (.cells #[.int .i64 0, .int .i64 0, .int .u64 0, .int .i64 0, .slice none 0 0] 207 (0, 0))) := (hb8.block r6 hr7).trans Q7.out; clear hb8)
              | (go_at_call 168; (with_reducible refine Calls.mono (none_any _) ?_); rintro e w9 ⟨hb9, rfl⟩; have B9 : Hid (Below w.heap.size w w9) := B8.out.trans (hb9.mono B8.out.size); have Q9 : Hid (w9.heap[r6]? = some (.cells #[.int .i64 0, .int .i64 0, .int .u64 0, .int .i64 0, .slice none 0 0] 207 (0, 0))) := (hb9.block r6 (Array.getElem?_eq_some_iff.1 Q8.out).1).trans Q8.out; clear hb9)
              | (with_reducible refine wpList_store_row rfl 207 (.tmp 6) (.tmp 143) rfl r6 #[.int .i64 (-1), .int .i64 0, .int .u64 0, .int .i64 0, .slice none 0 0] rfl rfl 207 #[.int .i64 0, .int .i64 0, .int .u64 0, .int .i64 0, .slice none 0 0] Q9.out (info5c _ _ _ _ _) (size5c _ _ _ _ _ _ _ _ _ _) (one5c _ _ _ _ _ _ _) ?_))
            have hl := run_loadVar_row (P := Tryz.prog) (w9.setRow r6 #[.int .i64 (-1), .int .i64 0, .int .u64 0, .int .i64 0, .slice none 0 0]) r6 207 207 #[.int .i64 (-1), .int .i64 0, .int .u64 0, .int .i64 0, .slice none 0 0] (0, 0) _ (setRow_heap w9 r6 _ _ 207 _ Q9.out) Tryz.underlying207 rfl (info5c _ _ _ _ _)
            exact bodyPost_ret (results_cell1 Tryz.results127 _ _ _ rfl hl) rfl ⟨below_setRow B9.out (by have := HR6.out; omega) _, fun _ => ⟨_, _, _, _, _, _, rfl⟩, fun x rest h => by cases h⟩
          | true =>
            rw [hfb] at HFIT
            obtain rfl : po = some (⟨c, 0, [], acc, dacc⟩, s.data.toList.drop a) := by have := HPF.out; simpa [hfb] using this
            clear hfb
            go_wp2_with (first
              | (go_at_call 171; (with_reducible refine Calls.mono HFIT.out ?_); rintro e w8 ⟨hb8, rfl⟩; have B8 : Hid (Below w.heap.size w w8) := B7.out.trans (hb8.mono hz7); have Q8 : Hid (w8.heap[r6]? = some (.cells #[.int .i64 0, .int .i64 0, .int .u64 0, .int .i64 0, .slice none 0 0] 207 (0, 0))) := (hb8.block r6 hr7).trans Q7.out; have O8 : Hid (Oc ob a dacc (Value.slice o0 m0 c0') w8) := (hb8.block ob O7.out.lt).trans O7.out; have W8 : Hid (w8.ownsRow (w.heap.size + 1) 3 1 (Value.slice o0 m0 c0') (j + 1) ((offs st acc).map I)) := ownsRow_blocks W7.out (fun g hg => hb8.block g (W7.out.lt g hg).2); obtain ⟨p_0, p_1, p_2, p_3, p_4⟩ := O8.out.c; clear hb8)
              | (with_reducible refine wpList_store_row rfl 207 (.tmp 6) (.tmp 144) rfl r6 #[.int .i64 (a : Int), .int .i64 (dacc : Int), .int .u64 0, .int .i64 0, .slice o0 m0 c0'] rfl rfl 207 #[.int .i64 0, .int .i64 0, .int .u64 0, .int .i64 0, .slice none 0 0] Q8.out (info5c _ _ _ _ _) (size5c _ _ _ _ _ _ _ _ _ _) (one5c _ _ _ _ _ _ _) ?_))
            have hl := run_loadVar_row (P := Tryz.prog) (w8.setRow r6 #[.int .i64 (a : Int), .int .i64 (dacc : Int), .int .u64 0, .int .i64 0, .slice o0 m0 c0']) r6 207 207 #[.int .i64 (a : Int), .int .i64 (dacc : Int), .int .u64 0, .int .i64 0, .slice o0 m0 c0'] (0, 0) _ (setRow_heap w8 r6 _ _ 207 _ Q8.out) Tryz.underlying207 rfl (info5c _ _ _ _ _)
            refine bodyPost_ret (results_cell1 Tryz.results127 _ _ _ rfl hl) rfl ⟨below_setRow B8.out (by have := HR6.out; omega) _, (fun h => by cases h), fun x rest h' => ?_⟩
            cases h'
            refine ⟨0, 0, o0, m0, c0', ?_, fun h' => absurd h' C110, fun h' => absurd h' C116, .inr ⟨st, hI.out.1, own_base (ownsRow_blocks (by rw [hacc]; exact W8.out) (fun g hg => setRow_other w8 r6 g _ (fun e => by have := (W8.out.lt g hg).1; have := HR6.out; omega))) (Nat.le_succ _)⟩⟩
            rw [drop_len, show s.size - (s.size - a) = a by omega]; rfl
    · obtain rfl : po = none := by have := HP.out; rw [hrest] at this; simpa [tupleO, ho, hk32] using this
      have hk1 : 32 < (k : Int) := by omega
      clear ho hnd hdrop hrest hpo HRKS hpi hste hrd
      go_enter Tryz.func127, Tryz.ntmps127
      go_upto_region 1 with fail
      have Q0 := Lib.hid (heap_alloc_at w (.cells #[.int .i64 0, .int .i64 0, .int .u64 0, .int .i64 0, .slice none 0 0] 207))
      have B0 := Lib.hid (below_new' w (.cells #[.int .i64 0, .int .i64 0, .int .u64 0, .int .i64 0, .slice none 0 0] 207))
      generalize w.alloc (.cells #[.int .i64 0, .int .i64 0, .int .u64 0, .int .i64 0, .slice none 0 0] 207) = w0 at Q0 B0 ⊢
      obtain ⟨r6, hr6⟩ : ∃ r6, w.heap.size = r6 := ⟨_, rfl⟩
      have HR6 := Lib.hid hr6
      rw [hr6] at Q0 ⊢
      clear hr6
      have hz0 : r6 < w0.heap.size := (Array.getElem?_eq_some_iff.1 Q0.out).1
      go_wp2_with (first
        | (go_at_call 170; (with_reducible refine Calls.mono (HPARTS _).out ?_); rintro e w9 ⟨rfl, rfl⟩)
        | (go_at_call 169; (with_reducible refine Calls.mono (HN.out _) ?_); rintro e w8 ⟨rfl, rfl⟩)
        | (go_at_call 168; (with_reducible refine Calls.mono (none_any _) ?_); rintro e w9 ⟨hb9, rfl⟩; have B9 : Hid (Below w.heap.size w w9) := B0.out.trans (hb9.mono B0.out.size); have Q9 : Hid (w9.heap[r6]? = some (.cells #[.int .i64 0, .int .i64 0, .int .u64 0, .int .i64 0, .slice none 0 0] 207 (0, 0))) := (hb9.block r6 (Array.getElem?_eq_some_iff.1 Q0.out).1).trans Q0.out; clear hb9)
        | (with_reducible refine wpList_store_row rfl 207 (.tmp 6) (.tmp 97) rfl r6 #[.int .i64 (-1), .int .i64 0, .int .u64 0, .int .i64 0, .slice none 0 0] rfl rfl 207 #[.int .i64 0, .int .i64 0, .int .u64 0, .int .i64 0, .slice none 0 0] Q9.out (info5c _ _ _ _ _) (size5c _ _ _ _ _ _ _ _ _ _) (one5c _ _ _ _ _ _ _) ?_))
      have hl := run_loadVar_row (P := Tryz.prog) (w9.setRow r6 #[.int .i64 (-1), .int .i64 0, .int .u64 0, .int .i64 0, .slice none 0 0]) r6 207 207 #[.int .i64 (-1), .int .i64 0, .int .u64 0, .int .i64 0, .slice none 0 0] (0, 0) _ (setRow_heap w9 r6 _ _ 207 _ Q9.out) Tryz.underlying207 rfl (info5c _ _ _ _ _)
      exact bodyPost_ret (results_cell1 Tryz.results127 _ _ _ rfl hl) rfl ⟨below_setRow B9.out (by have := HR6.out; omega) _, fun _ => ⟨_, _, _, _, _, _, rfl⟩, fun x rest h => by cases h⟩
end Go.Proofs.YtbdimlppnhcicaaGreatDoor
/- term, the document's: read is parse; Right, Size, Deep. -/
namespace Go.Proofs.YtbdimlppnhcicaaGreatDoor
set_option linter.unusedVariables false
open Go.RowKit
set_option maxRecDepth 100000 in
set_option maxHeartbeats 4000000 in
theorem rread_bad (at_ R : Nat) (s : ByteArray) (w : World) (h : at_ < s.size) (hs : s.size ≤ 16384) (hR : R ≤ 63) (c : UInt8) (hc : s[at_] = c) (C110 : c ≠ 110) (C116 : c ≠ 116) (C84 : c ≠ 84) (hk : arity c = none) :
    Calls Tryz.prog 127 #[.string s, .int .i64 at_, .int .i64 ((R : Int) + 1)] w (CutPost s none w) := by
  have hi : (at_ : Int) < (s.size : Int) := by omega
  have q2 : ((R : Int) + 1 == 0) = false := beq_eq_false_iff_ne.mpr (by omega)
  have HPARTS := fun W => Lib.hid (parts_any W c)
  have hpi : partsI c = -1 := by unfold partsI; rw [hk]
  rw [hpi] at HPARTS
  obtain ⟨x, hx⟩ : ∃ x : Int, (c.toNat : Int) = x := ⟨_, rfl⟩
  have ne : ∀ k : UInt8, c ≠ k → (c.toNat : Int) ≠ (k.toNat : Int) := fun k h h' => h (UInt8.toNat_inj.mp (by omega))
  have b110 : (x == 110) = false := beq_eq_false_iff_ne.mpr (by rw [← hx]; exact ne 110 C110)
  have b116 : (x == 116) = false := beq_eq_false_iff_ne.mpr (by rw [← hx]; exact ne 116 C116)
  have b84 : (x == 84) = false := beq_eq_false_iff_ne.mpr (by rw [← hx]; exact ne 84 C84)
  rw [hx] at HPARTS
  clear ne hpi hk
  go_enter Tryz.func127, Tryz.ntmps127
  go_upto_region 1 with fail
  have Q0 := Lib.hid (heap_alloc_at w (.cells #[.int .i64 0, .int .i64 0, .int .u64 0, .int .i64 0, .slice none 0 0] 207))
  have B0 := Lib.hid (below_new' w (.cells #[.int .i64 0, .int .i64 0, .int .u64 0, .int .i64 0, .slice none 0 0] 207))
  generalize w.alloc (.cells #[.int .i64 0, .int .i64 0, .int .u64 0, .int .i64 0, .slice none 0 0] 207) = w0 at Q0 B0 ⊢
  obtain ⟨r6, hr6⟩ : ∃ r6, w.heap.size = r6 := ⟨_, rfl⟩
  have HR6 := Lib.hid hr6
  rw [hr6] at Q0 ⊢
  clear hr6
  go_wp2_with (first
    | (go_at_call 170; (with_reducible refine Calls.mono (HPARTS _).out ?_); rintro e w9 ⟨rfl, rfl⟩)
    | (go_at_call 168; (with_reducible refine Calls.mono (none_any _) ?_); rintro e w9 ⟨hb9, rfl⟩; have B9 : Hid (Below w.heap.size w w9) := B0.out.trans (hb9.mono B0.out.size); have Q9 : Hid (w9.heap[r6]? = some (.cells #[.int .i64 0, .int .i64 0, .int .u64 0, .int .i64 0, .slice none 0 0] 207 (0, 0))) := (hb9.block r6 (Array.getElem?_eq_some_iff.1 Q0.out).1).trans Q0.out; clear hb9)
    | (with_reducible refine wpList_store_row rfl 207 (.tmp 6) (.tmp 103) rfl r6 #[.int .i64 (-1), .int .i64 0, .int .u64 0, .int .i64 0, .slice none 0 0] rfl rfl 207 #[.int .i64 0, .int .i64 0, .int .u64 0, .int .i64 0, .slice none 0 0] Q9.out (info5c _ _ _ _ _) (size5c _ _ _ _ _ _ _ _ _ _) (one5c _ _ _ _ _ _ _) ?_))
  have hl := run_loadVar_row (P := Tryz.prog) (w9.setRow r6 #[.int .i64 (-1), .int .i64 0, .int .u64 0, .int .i64 0, .slice none 0 0]) r6 207 207 #[.int .i64 (-1), .int .i64 0, .int .u64 0, .int .i64 0, .slice none 0 0] (0, 0) _ (setRow_heap w9 r6 _ _ 207 _ Q9.out) Tryz.underlying207 rfl (info5c _ _ _ _ _)
  exact bodyPost_ret (results_cell1 Tryz.results127 _ _ _ rfl hl) rfl ⟨below_setRow B9.out (by have := HR6.out; omega) _, fun _ => ⟨_, _, _, _, _, _, rfl⟩, fun x rest h => by cases h⟩
theorem field_0 (a b c d : Int) (o : Option Addr) (m k : Nat) (w : World) : (Instr.field 207 (.agg #[.int .i64 a, .int .i64 b, .int .u64 c, .int .i64 d, .slice o m k]) 0).run Tryz.prog w = .ok (.int .i64 a) w := by kernel_rfl
theorem field_1 (a b c d : Int) (o : Option Addr) (m k : Nat) (w : World) : (Instr.field 207 (.agg #[.int .i64 a, .int .i64 b, .int .u64 c, .int .i64 d, .slice o m k]) 1).run Tryz.prog w = .ok (.int .i64 b) w := by kernel_rfl
attribute [local go_sem] field_0 field_1
theorem rest_bad {c : UInt8} (C110 : c ≠ 110) (C116 : c ≠ 116) (C84 : c ≠ 84) (hk : arity c = none) (R : Nat) (r : List UInt8) : restP R c r = none := by
  unfold restP
  rw [if_neg C110, if_neg C116, if_neg C84, hk]
/-- the document's read is parse -/
theorem rread_any (s : ByteArray) (hs : s.size ≤ 16384) : ∀ R : Nat, R ≤ 64 → ∀ (a : Nat) (W : World), a ≤ s.size → Calls Tryz.prog 127 #[.string s, .int .i64 a, .int .i64 R] W (CutPost s (parse R (s.data.toList.drop a)) W)
  | 0, _ => fun a W ha => by
    rw [show parse 0 (s.data.toList.drop a) = none from rfl]
    rcases Nat.lt_or_ge a s.size with h | h
    · exact rread_room a s W h hs
    · exact rread_end a 0 s W h (by omega) hs
  | R + 1, hR64 => fun a W ha => by
    have hT := rread_any s hs R (by omega)
    rcases Nat.lt_or_ge a s.size with h | h
    · by_cases C110 : s[a] = 110
      · exact rread_name a R s W h hs (by omega) C110
      by_cases C116 : s[a] = 116
      · exact rread_text a R s W h hs (by omega) C116
      by_cases C84 : s[a] = 84
      · exact rread_tuple a R s W h hs (by omega) _ rfl C84 hT
      cases hk : arity s[a] with
      | none =>
        rw [drop_cons s a h, parse_rest, rest_bad C110 C116 C84 hk]
        exact rread_bad a R s W h hs (by omega) _ rfl C110 C116 C84 hk
      | some k => exact rread_parts a R k s W h hs (by omega) _ rfl C110 C116 C84 hk hT
    · rw [drop_nil s a h, parse_nil]
      exact rread_end a (R + 1) s W h (by omega) hs
theorem rread_top (s : ByteArray) (hs : s.size ≤ 16384) (W : World) : Calls Tryz.prog 127 #[.string s, .int .i64 0, .int .i64 64] W (CutPost s (parse 64 s.data.toList) W) := rread_any s hs 64 (Nat.le_refl _) 0 W (Nat.zero_le _)
def topP : Option (Sh × List UInt8) → Option Sh
  | none => none
  | some (x, r) => if r = [] then some x else none
theorem readP_short {l : List UInt8} (h : l.length ≤ 16384) : readP l = topP (parse 64 l) := by
  unfold readP
  rw [if_pos h]
  cases parse 64 l with
  | none => rfl
  | some y =>
    obtain ⟨x, r⟩ := y
    cases r <;> rfl
set_option maxRecDepth 100000 in
set_option maxHeartbeats 2000000 in
theorem rright_any (t : ByteArray) (w : World) (hm : t.size ≤ maxLen) : Calls Tryz.prog 70 #[.string t] w fun e w' => e = .returned (.bool (rightB t.data.toList)) ∧ Below w.heap.size w w' := by
  unfold maxLen at hm
  rcases Nat.lt_or_ge 16384 t.size with h | h
  · have e : rightB t.data.toList = false := by unfold rightB readP; rw [if_neg (by rw [list_size]; omega)]; rfl
    rw [e]
    have hi : ¬ (t.size : Int) ≤ 16384 := by omega
    go_enter Tryz.func70, Tryz.ntmps70
    go_wp2
    go_ret
    exact ⟨rfl, Below.refl _ _⟩
  · have hi : (t.size : Int) ≤ 16384 := by omega
    have HC := Lib.hid (rread_top t h w)
    have HRB := readP_short (l := t.data.toList) (by rw [list_size]; exact h)
    obtain ⟨rb, hrb⟩ : ∃ rb, rightB t.data.toList = rb := ⟨_, rfl⟩
    rw [hrb]
    unfold rightB at hrb
    rw [HRB] at hrb
    cases hp : parse 64 t.data.toList with
    | none =>
      rw [hp] at HC hrb
      obtain rfl : false = rb := (by simpa [topP] using hrb)
      have hne : ((-1 : Int) == (t.size : Int)) = false := beq_eq_false_iff_ne.mpr (by omega)
      clear hp HRB
      go_enter Tryz.func70, Tryz.ntmps70
      go_wp2_with (go_at_call 127; (with_reducible refine Calls.mono HC.out ?_); rintro e w1 ⟨hb, hno, _⟩; obtain ⟨d, n, f, ko, km, kc, rfl⟩ := hno rfl; have B1 := Lib.hid hb; clear hb hno)
      go_ret
      exact ⟨rfl, B1.out⟩
    | some y =>
      obtain ⟨x, rest⟩ := y
      rw [hp] at HC hrb
      obtain ⟨hr1, _, _⟩ := parse_drop (R := 64) (s := t) (a := 0) (x := x) (r := rest) hp
      obtain ⟨en, hen⟩ : ∃ en : Int, ((t.size - rest.length : Nat) : Int) = en := ⟨_, rfl⟩
      have HEN := Lib.hid hen
      cases rest with
      | nil =>
        obtain rfl : true = rb := (by simpa [topP] using hrb)
        have hne : (en == (t.size : Int)) = true := by rw [beq_iff_eq, ← hen]; simp
        clear hp HRB hen
        go_enter Tryz.func70, Tryz.ntmps70
        go_wp2_with (go_at_call 127; (with_reducible refine Calls.mono HC.out ?_); rintro e w1 ⟨hb, _, hyes⟩; obtain ⟨n, f, ko, km, kc, rfl, _⟩ := hyes x _ rfl; (rw [HEN.out]); have B1 := Lib.hid hb; clear hb hyes)
        go_ret
        exact ⟨rfl, B1.out⟩
      | cons c r =>
        obtain rfl : false = rb := (by simpa [topP] using hrb)
        have hne : (en == (t.size : Int)) = false := beq_eq_false_iff_ne.mpr (by rw [← hen]; simp only [List.length_cons] at hr1 ⊢; omega)
        clear hp HRB hen
        go_enter Tryz.func70, Tryz.ntmps70
        go_wp2_with (go_at_call 127; (with_reducible refine Calls.mono HC.out ?_); rintro e w1 ⟨hb, _, hyes⟩; obtain ⟨n, f, ko, km, kc, rfl, _⟩ := hyes x _ rfl; (rw [HEN.out]); have B1 := Lib.hid hb; clear hb hyes)
        go_ret
        exact ⟨rfl, B1.out⟩
end Go.Proofs.YtbdimlppnhcicaaGreatDoor
