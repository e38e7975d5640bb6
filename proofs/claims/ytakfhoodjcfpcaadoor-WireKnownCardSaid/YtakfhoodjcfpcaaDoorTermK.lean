/- term: reader.term walked. (Printed by a program of ours: one theorem for each way that a rest is read.) -/
import Derived.Lib.ParseIntB
import Derived.Lib.Bytealg
import Derived.Shelf.Small.Strs
import Derived.Shelf.Strconv.Itoa0
import Derived.Shelf.Strconv.ParseIntEmpty
import Derived.Shelf.LaysM
import Derived.Shelf.Strconv.Clone
import Derived.Shelf.Strconv.SyntaxError
import Derived.Shelf.LaysC
import Derived.Shelf.Strconv.ToError
import Derived.Shelf.Strconv.Lower
import Derived.Shelf.Strconv.ParseUint10
import Derived.Shelf.Strconv.ParseUint10Empty
import Derived.Shelf.Strconv.ParseUint10Any
import Derived.Shelf.Strconv.ParseInt10
import Derived.Shelf.Strconv.RangeError
import Derived.Shelf.Strconv.ToErrorRange
import Derived.Shelf.Strconv.ParseUintEmpty
import Derived.Shelf.Strconv.ParseUint10b64
import Derived.Shelf.Strconv.ParseUint10b32
import Derived.Shelf.Strconv.ParseUint10b16
import Derived.Shelf.Strconv.ParseUint10b8
import Derived.Shelf.Strconv.ParseUint10At
import Derived.Shelf.Strconv.ParseInt10At64
import Derived.Shelf.Strconv.ParseInt10At32
import Derived.Shelf.Strconv.ParseInt10At16
import Derived.Shelf.Strconv.ParseInt10At8
import Derived.Shelf.Strconv.ParseInt10All
import Derived.Shelf.Strconv.ParseIntPublic10
import Derived.Shelf.Strconv.ErrVarParseInt
import Derived.Shelf.Strings.Search1
import Derived.WalkKit
import Derived.WalkSpells
import Derived.WalkLawsBesides
import Derived.Handy
import Derived.Lib.Hide
import Derived.Deep.QuietTactic
import Derived.BigQuiet
import Derived.Deep.RegionHeld3
import Derived.Lib.Strings
import Derived.Lib.IndexBytes
import Derived.BigRegion
import Derived.Deep.RegionLaw
import Derived.Deep.AppendLies
import Derived.Deep.LoopGhost
import Derived.Deep.Onto
import Derived.Deep.WholeRow
import Derived.Deep.CutRange
import Derived.Test.YtakfhoodjcfpcaaDoorRows
import Derived.Test.YtakfhoodjcfpcaaDoorProg
import Derived.Test.YtakfhoodjcfpcaaDoorTlA
import Derived.Test.YtakfhoodjcfpcaaDoorTlF
import Derived.Test.YtakfhoodjcfpcaaDoorTlH
import Derived.Test.YtakfhoodjcfpcaaDoorTlI
import Derived.Test.YtakfhoodjcfpcaaDoorTlP
import Derived.Test.YtakfhoodjcfpcaaDoorTlU
import Derived.Test.YtakfhoodjcfpcaaDoorNumA
import Derived.Test.YtakfhoodjcfpcaaDoorNumB
import Derived.Test.YtakfhoodjcfpcaaDoorTa
namespace Go.Proofs.YtakfhoodjcfpcaaDoor
set_option linter.unusedVariables false
open Go.RowKit
theorem info5s (op n : Int) (u : ByteArray) (kv : Value) (d : Int) : (Tryd.prog.info? 102).map (·.size) = some (#[.int .u8 op, .int .i64 n, .string u, kv, .int .i64 d] : Array Value).size := info49
theorem size5s (op n : Int) (u : ByteArray) (kv : Value) (d : Int) (op' n' : Int) (u' : ByteArray) (kv' : Value) (d' : Int) : (#[.int .u8 op, .int .i64 n, .string u, kv, .int .i64 d] : Array Value).size = (#[.int .u8 op', .int .i64 n', .string u', kv', .int .i64 d'] : Array Value).size := rfl
theorem one5s (op n : Int) (u : ByteArray) (a : Option Addr) (l k : Nat) (d : Int) : (#[.int .u8 op, .int .i64 n, .string u, .slice a l k, .int .i64 d] : Array Value).all (·.oneCell') = true := by simp [Value.oneCell']
theorem kids_slice {B : Nat} {kv : Value} {ks : List (List UInt8)} {w : World} (h : KidsAt B kv ks w) : ∃ ko km kc, kv = .slice ko km kc := by
  obtain ⟨vs, _, _, h3⟩ := h
  rcases h3 with ⟨h0, _⟩ | ⟨g, cap, cur, hv, _⟩
  · exact ⟨_, _, _, h0⟩
  · exact ⟨_, _, _, hv⟩
theorem kids_lt {B : Nat} {kv : Value} {ks : List (List UInt8)} {w : World} (h : KidsAt B kv ks w) : ∀ g, kv.ownBlock = some g → B ≤ g ∧ g < w.heap.size := fun g hg => by
  obtain ⟨vs, _, h2⟩ := h
  exact h2.lt g hg
set_option maxRecDepth 100000 in
set_option maxHeartbeats 2000000 in
theorem term_62 (rb at_ R : Nat) (s : ByteArray) (w : World) (hR : Rd rb s at_ w) (ha : at_ < s.size) (hs : s.size ≤ 16384) (hRR : R ≤ 63) (hL : LibOk w) (h6 : 3 ≤ rb) (hT : TermAt rb R s) (c : UInt8) (hc : s[at_] = c) (hf : formOf c = some 73) :
    Calls Tryd.prog 65 #[.pointer (some ⟨rb, 0, none⟩), .int .i64 ((R : Int) + 1)] w (TermPost rb s (parse (R + 1) (s.data.toList.drop at_)) w) := by
  have hdrop : s.data.toList.drop at_ = c :: s.data.toList.drop (at_ + 1) := by
    rw [List.drop_eq_getElem_cons (by rw [Array.length_toList]; exact ha), ← hc]; rfl
  have HP := Lib.hid (parse_rest R c (s.data.toList.drop (at_ + 1)))
  rw [hdrop]
  obtain ⟨rr, hrr⟩ : ∃ rr, s.data.toList.drop (at_ + 1) = rr := ⟨_, rfl⟩
  have HRR := Lib.hid hrr
  rw [hrr] at HP ⊢
  obtain ⟨po, hpo⟩ : ∃ po, parse (R + 1) (c :: rr) = po := ⟨_, rfl⟩
  rw [hpo] at HP ⊢
  clear hdrop hrr hpo
  have hlt := hR.lt
  have HR := Lib.hid hR
  have HL := Lib.hid hL
  have q : ((at_ : Int) == (s.size : Int)) = false := beq_eq_false_iff_ne.mpr (by omega)
  have q2 : ((R : Int) + 1 == 0) = false := beq_eq_false_iff_ne.mpr (by omega)
  have I49 := Lib.hid info49
  have HF : Hid (∀ W, Calls Tryd.prog 70 #[.pointer (some ⟨rb, 0, none⟩), .int .u8 c.toNat] W (fun e w' => w' = W ∧ e = .returned (.func (.func 73) #[.pointer (some ⟨rb, 0, none⟩)] #[]))) := fun W => by
    have := form_any rb W c
    rw [hf] at this
    exact this
  have HCO := Lib.hid hf
  have hnil : ∀ W : World, (binOp BinOp.eql 123 (.func (.func 73) #[.pointer (some ⟨rb, 0, none⟩)] #[]) .nilFunc).run Tryd.prog W = .ok (.bool false) W := fun _ => by kernel_rfl
  clear hR hL hf
  go_enter Tryd.func65, Tryd.ntmps65
  go_upto_region 1 with fail
  have R4 := Lib.hid (heap_alloc_at w (.cells #[.int .u8 0, .int .i64 0, .string ⟨#[]⟩, .slice none 0 0, .int .i64 0] 102))
  have B0 := Lib.hid (below_new' w (.cells #[.int .u8 0, .int .i64 0, .string ⟨#[]⟩, .slice none 0 0, .int .i64 0] 102))
  have hz0 : w.heap.size < (w.alloc (.cells #[.int .u8 0, .int .i64 0, .string ⟨#[]⟩, .slice none 0 0, .int .i64 0] 102)).heap.size := by simp
  generalize w.alloc (.cells #[.int .u8 0, .int .i64 0, .string ⟨#[]⟩, .slice none 0 0, .int .i64 0] 102) = w0 at R4 B0 hz0 ⊢
  obtain ⟨r4, hr4⟩ : ∃ r4, w.heap.size = r4 := ⟨_, rfl⟩
  have HR4 := Lib.hid hr4
  rw [hr4] at R4 hlt hz0 ⊢
  clear hr4
  have hR0 := HR.out.below B0.out
  have hc0 := hR0.c0
  have hc1 := hR0.c1
  have hf1 := hR0.f 1
  clear hR0
  go_quiet (fail)
  have B1 := Lib.hid (B0.out.trans ((drewN_same w0 nq).1.mono B0.out.size))
  have R1 : Hid ((w0.drewN nq).heap[r4]? = some (.cells #[.int .u8 0, .int .i64 0, .string ⟨#[]⟩, .slice none 0 0, .int .i64 0] 102 (0, 0))) := R4.out
  have hz1 : r4 < (w0.drewN nq).heap.size := by rw [drewN_size]; exact hz0
  generalize w0.drewN nq = w1 at B1 R1 hz1 ⊢
  clear hc0 hc1 hf1 hz0 R4 B0
  go_upto_region 4 with fail
  have B2 : Hid (Below w.heap.size w (w1.alloc (.cells #[.int .u8 0, .int .i64 0, .string ⟨#[]⟩, .slice none 0 0, .int .i64 1] 102))) := B1.out.alloc B1.out.size _
  have R2 : Hid ((w1.alloc (.cells #[.int .u8 0, .int .i64 0, .string ⟨#[]⟩, .slice none 0 0, .int .i64 1] 102)).heap[r4]? = some (.cells #[.int .u8 0, .int .i64 0, .string ⟨#[]⟩, .slice none 0 0, .int .i64 0] 102 (0, 0))) := (Below.heap_alloc w1 _ r4 hz1).trans R1.out
  have X2 : Hid (Xs w1.heap.size 0 0 ⟨#[]⟩ (.slice none 0 0) 1 (w1.alloc (.cells #[.int .u8 0, .int .i64 0, .string ⟨#[]⟩, .slice none 0 0, .int .i64 1] 102))) := heap_alloc_at w1 _
  generalize w1.alloc (.cells #[.int .u8 0, .int .i64 0, .string ⟨#[]⟩, .slice none 0 0, .int .i64 1] 102) = w2 at B2 R2 X2 ⊢
  obtain ⟨xb, hxb⟩ : ∃ xb, w1.heap.size = xb := ⟨_, rfl⟩
  rw [hxb] at hz1 X2 ⊢
  clear hxb B1 R1
  have hR2 := HR.out.below B2.out
  have hc0 := hR2.c0
  have hc1 := hR2.c1
  have hf1 := hR2.f 1
  obtain ⟨x0, x1, x2, x3, x4⟩ := X2.out.c
  have hxf := fun o => X2.out.f o
  clear hR2
  go_region
  have hxw : w.heap.size ≤ xb := by have := HR4.out; omega
  have F3 : Hid (Fr (fun k => k = rb) w (w2.setCell ⟨xb, 0, none⟩ (.int .u8 c.toNat)).drew) := ((Fr.below B2.out).set' ⟨xb, 0, none⟩ _ (fun h => by have : xb < w.heap.size := h; omega)).drew
  have hxr : xb ≠ rb := by have := HR4.out; omega
  have R3 : Hid (Rd rb s at_ (w2.setCell ⟨xb, 0, none⟩ (.int .u8 c.toNat)).drew) := (HR.out.below B2.out).setX hxr _ _
  have X3 : Hid (Xs xb c.toNat 0 ⟨#[]⟩ (.slice none 0 0) 1 (w2.setCell ⟨xb, 0, none⟩ (.int .u8 c.toNat)).drew) := heap_setCell_same w2 xb 0 _ 102 _ X2.out
  have Q3 : Hid ((w2.setCell ⟨xb, 0, none⟩ (.int .u8 c.toNat)).drew.heap[r4]? = some (.cells #[.int .u8 0, .int .i64 0, .string ⟨#[]⟩, .slice none 0 0, .int .i64 0] 102 (0, 0))) := (Below.heap_setCell w2 ⟨xb, 0, none⟩ _ r4 (by show r4 ≠ xb; omega)).trans R2.out
  generalize (w2.setCell ⟨xb, 0, none⟩ (.int .u8 c.toNat)).drew = w3 at F3 R3 X3 Q3 ⊢
  clear hc0 hc1 hf1 x0 x1 x2 x3 x4 hxf B2 R2 X2
  have hc0 := R3.out.c0
  have hc1 := R3.out.c1
  have hf1 := R3.out.f 1
  have x0 := X3.out.c.1
  have hat : (at_ : Int) < 16384 := by omega
  go_upto_region 7 with (go_at_call 70; (with_reducible refine Calls.mono (HF.out _) ?_); rintro e w9 ⟨hw9, rfl⟩; subst hw9)
  have F4 : Hid (Fr (fun k => k = rb) w (w9.setCell ⟨rb, 1, none⟩ (.int .i64 ((at_ : Int) + 1)))) := F3.out.set' ⟨rb, 1, none⟩ _ (fun _ => rfl)
  have RR4 : Hid (Rd rb s ((at_ + 1 : Nat) : Int) (w9.setCell ⟨rb, 1, none⟩ (.int .i64 ((at_ : Int) + 1)))) := R3.out.set _
  have X4 : Hid (Xs xb c.toNat 0 ⟨#[]⟩ (.slice none 0 0) 1 (w9.setCell ⟨rb, 1, none⟩ (.int .i64 ((at_ : Int) + 1)))) := X3.out.setR hxr _ _
  have Q4 : Hid ((w9.setCell ⟨rb, 1, none⟩ (.int .i64 ((at_ : Int) + 1))).heap[r4]? = some (.cells #[.int .u8 0, .int .i64 0, .string ⟨#[]⟩, .slice none 0 0, .int .i64 0] 102 (0, 0))) := (Below.heap_setCell w9 ⟨rb, 1, none⟩ _ r4 (by show r4 ≠ rb; omega)).trans Q3.out
  generalize w9.setCell ⟨rb, 1, none⟩ (.int .i64 ((at_ : Int) + 1)) = w4 at F4 RR4 X4 Q4 ⊢
  clear hc0 hc1 hf1 x0 F3 R3 X3 Q3
  have L4 : Hid (LibOk w4) := HL.out.fr F4.out (by omega) (by omega)
  have HREST := Lib.hid (rest_any rb xb (at_ + 1) R 73 c s w4 HCO.out hs (by omega) RR4.out X4.out L4.out hxr (by omega) h6 (by omega) hT)
  rw [HRR.out] at HREST
  cases ho : restP R c rr with
  | none =>
    rw [ho] at HREST HP
    obtain rfl : po = none := HP.out
    clear ho
    go_wp2_with (first
      | (go_at_call 73; (with_reducible refine Calls.mono HREST.out ?_); rintro e w5 ⟨hf5, hno, _⟩; obtain ⟨rfl, z, m, d', u', kv', hz, _⟩ := hno rfl; have F5 := Lib.hid hf5; have Z5 := Lib.hid hz; have Q5 : Hid (w5.heap[r4]? = some (.cells #[.int .u8 0, .int .i64 0, .string ⟨#[]⟩, .slice none 0 0, .int .i64 0] 102 (0, 0))) := (hf5.block r4 (Array.getElem?_eq_some_iff.1 Q4.out).1 (by rintro (h | h) <;> omega)).trans Q4.out; clear hf5 hno hz)
      | (with_reducible refine wpList_store_row rfl 102 (.tmp 4) (.tmp 60) rfl r4 #[.int .u8 0, .int .i64 0, .string ⟨#[]⟩, .slice none 0 0, .int .i64 0] rfl rfl 102 #[.int .u8 0, .int .i64 0, .string ⟨#[]⟩, .slice none 0 0, .int .i64 0] Q5.out (info5s _ _ _ _ _) (size5s _ _ _ _ _ _ _ _ _ _) (one5s _ _ _ _ _ _ _) ?_))
    have hl := run_loadVar_row (P := Tryd.prog) (w5.setRow r4 #[.int .u8 0, .int .i64 0, .string ⟨#[]⟩, .slice none 0 0, .int .i64 0]) r4 102 102 #[.int .u8 0, .int .i64 0, .string ⟨#[]⟩, .slice none 0 0, .int .i64 0] (0, 0) _ (setRow_heap w5 r4 _ _ 102 _ Q5.out) Tryd.underlying102 rfl (info5s _ _ _ _ _)
    refine bodyPost_ret (results_cell_tmp Tryd.results65 _ _ _ rfl hl) rfl ⟨?_, ⟨z, ?_⟩, fun _ => rfl, fun x rest h => by cases h⟩
    · exact ((F4.out.trans' F5.out (fun i hi h => h.resolve_right (fun e => by omega))).setR r4 _ (fun h => by have := HR4.out; omega)).grownBy
    · show Rd rb s z _
      exact (setRow_other _ _ rb _ (by omega)).trans Z5.out
  | some y =>
    obtain ⟨n, t, ks, d, u'⟩ := y
    have RK := Lib.hid (rest_kids ho)
    rw [ho] at HREST HP
    clear ho
    have hr4w : r4 < w4.heap.size := (Array.getElem?_eq_some_iff.1 Q4.out).1
    cases hfb : fitsB c ks with
    | false =>
      have HFB := Lib.hid hfb
      obtain rfl : po = none := by have := HP.out; simpa [hfb] using this
      clear hfb
      go_wp2_with (first
        | (go_at_call 73; (with_reducible refine Calls.mono HREST.out ?_); rintro e w5 ⟨hf5, _, hyes⟩; obtain ⟨rfl, a5, u5, kv, ha5, hd5, hu5, hz, hx5, hk5⟩ := hyes n t ks d u' rfl; obtain ⟨ko, km, kc, rfl⟩ := kids_slice hk5; have F5 := Lib.hid hf5; have Z5 := Lib.hid hz; have X5 := Lib.hid hx5; have K5 := Lib.hid hk5; have D5 := Lib.hid hd5; have U5 := Lib.hid hu5; have A5 := Lib.hid ha5; have Q5 : Hid (w5.heap[r4]? = some (.cells #[.int .u8 0, .int .i64 0, .string ⟨#[]⟩, .slice none 0 0, .int .i64 0] 102 (0, 0))) := (hf5.block r4 (Array.getElem?_eq_some_iff.1 Q4.out).1 (by rintro (h | h) <;> omega)).trans Q4.out; obtain ⟨x0, x1, x2, x3, x4⟩ := hx5.c; have HFITS := Lib.hid (fits_any w4.heap.size c n d u5 ko km kc ks w5 hk5 RK.out.1 RK.out.2); (rw [HFB.out] at HFITS); clear hf5 hyes hz hx5 hk5 hd5 hu5 ha5)
        | (go_at_call 71; (with_reducible refine Calls.mono HFITS.out ?_); rintro e w6 ⟨hb6, rfl⟩; have B6 := Lib.hid hb6; have X6 := Lib.hid (X5.out.fr (S := fun _ => False) (Fr.below hb6) id); have Q6 : Hid (w6.heap[r4]? = some (.cells #[.int .u8 0, .int .i64 0, .string ⟨#[]⟩, .slice none 0 0, .int .i64 0] 102 (0, 0))) := (hb6.block r4 (Array.getElem?_eq_some_iff.1 Q5.out).1).trans Q5.out; obtain ⟨y0, y1, y2, y3, y4⟩ := X6.out.c; clear hb6)
        | (with_reducible refine wpList_store_row rfl 102 (.tmp 4) (.tmp 60) rfl r4 #[.int .u8 0, .int .i64 0, .string ⟨#[]⟩, .slice none 0 0, .int .i64 0] rfl rfl 102 #[.int .u8 0, .int .i64 0, .string ⟨#[]⟩, .slice none 0 0, .int .i64 0] Q6.out (info5s _ _ _ _ _) (size5s _ _ _ _ _ _ _ _ _ _) (one5s _ _ _ _ _ _ _) ?_))
      have hl := run_loadVar_row (P := Tryd.prog) (w6.setRow r4 #[.int .u8 0, .int .i64 0, .string ⟨#[]⟩, .slice none 0 0, .int .i64 0]) r4 102 102 #[.int .u8 0, .int .i64 0, .string ⟨#[]⟩, .slice none 0 0, .int .i64 0] (0, 0) _ (setRow_heap w6 r4 _ _ 102 _ Q6.out) Tryd.underlying102 rfl (info5s _ _ _ _ _)
      refine bodyPost_ret (results_cell_tmp Tryd.results65 _ _ _ rfl hl) rfl ⟨?_, ⟨(a5 : Int), ?_⟩, fun _ => rfl, fun x rest h => by cases h⟩
      · exact (((F4.out.trans' F5.out (fun i hi h => h.resolve_right (fun e => by omega))).trans (Fr.below B6.out)).setR r4 _ (fun h => by have := HR4.out; omega)).grownBy
      · show Rd rb s a5 _
        exact (setRow_other _ _ rb _ (by omega)).trans (Z5.out.below B6.out)
    | true =>
      have HFB := Lib.hid hfb
      obtain rfl : po = some (⟨c, n, t, ks, d⟩, u') := by have := HP.out; simpa [hfb] using this
      clear hfb
      go_wp2_with (first
        | (go_at_call 73; (with_reducible refine Calls.mono HREST.out ?_); rintro e w5 ⟨hf5, _, hyes⟩; obtain ⟨rfl, a5, u5, kv, ha5, hd5, hu5, hz, hx5, hk5⟩ := hyes n t ks d u' rfl; obtain ⟨ko, km, kc, rfl⟩ := kids_slice hk5; have F5 := Lib.hid hf5; have Z5 := Lib.hid hz; have X5 := Lib.hid hx5; have K5 := Lib.hid hk5; have D5 := Lib.hid hd5; have U5 := Lib.hid hu5; have A5 := Lib.hid ha5; have Q5 : Hid (w5.heap[r4]? = some (.cells #[.int .u8 0, .int .i64 0, .string ⟨#[]⟩, .slice none 0 0, .int .i64 0] 102 (0, 0))) := (hf5.block r4 (Array.getElem?_eq_some_iff.1 Q4.out).1 (by rintro (h | h) <;> omega)).trans Q4.out; obtain ⟨x0, x1, x2, x3, x4⟩ := hx5.c; have HFITS := Lib.hid (fits_any w4.heap.size c n d u5 ko km kc ks w5 hk5 RK.out.1 RK.out.2); (rw [HFB.out] at HFITS); clear hf5 hyes hz hx5 hk5 hd5 hu5 ha5)
        | (go_at_call 71; (with_reducible refine Calls.mono HFITS.out ?_); rintro e w6 ⟨hb6, rfl⟩; have B6 := Lib.hid hb6; have X6 := Lib.hid (X5.out.fr (S := fun _ => False) (Fr.below hb6) id); have Q6 : Hid (w6.heap[r4]? = some (.cells #[.int .u8 0, .int .i64 0, .string ⟨#[]⟩, .slice none 0 0, .int .i64 0] 102 (0, 0))) := (hb6.block r4 (Array.getElem?_eq_some_iff.1 Q5.out).1).trans Q5.out; obtain ⟨y0, y1, y2, y3, y4⟩ := X6.out.c; clear hb6)
        | (with_reducible refine wpList_store_row rfl 102 (.tmp 4) (.tmp 61) rfl r4 #[.int .u8 c.toNat, .int .i64 n, .string u5, .slice ko km kc, .int .i64 d] rfl rfl 102 #[.int .u8 0, .int .i64 0, .string ⟨#[]⟩, .slice none 0 0, .int .i64 0] Q6.out (info5s _ _ _ _ _) (size5s _ _ _ _ _ _ _ _ _ _) (one5s _ _ _ _ _ _ _) ?_))
      have hl := run_loadVar_row (P := Tryd.prog) (w6.setRow r4 #[.int .u8 c.toNat, .int .i64 n, .string u5, .slice ko km kc, .int .i64 d]) r4 102 102 #[.int .u8 c.toNat, .int .i64 n, .string u5, .slice ko km kc, .int .i64 d] (0, 0) _ (setRow_heap w6 r4 _ _ 102 _ Q6.out) Tryd.underlying102 rfl (info5s _ _ _ _ _)
      have hR6 : Rd rb s a5 (w6.setRow r4 #[.int .u8 c.toNat, .int .i64 n, .string u5, .slice ko km kc, .int .i64 d]) := (setRow_other _ _ rb _ (by omega)).trans (Z5.out.below B6.out)
      refine bodyPost_ret (results_cell_tmp Tryd.results65 _ _ _ rfl hl) rfl ⟨?_, ⟨_, hR6⟩, fun h => (by cases h), fun x rest h => ?_⟩
      · exact (((F4.out.trans' F5.out (fun i hi h => h.resolve_right (fun e => by omega))).trans (Fr.below B6.out)).setR r4 _ (fun h => by have := HR4.out; omega)).grownBy
      · cases h
        refine ⟨a5, u5, ko, km, kc, rfl, U5.out, A5.out, hR6, D5.out, ?_⟩
        refine kids_base (kids_fr (S := fun k => k = r4) K5.out ((Fr.below B6.out).setR r4 _ (fun _ => rfl)) (fun g hg e => ?_)) F4.out.size
        have := (kids_lt K5.out g hg).1
        omega
set_option maxRecDepth 100000 in
set_option maxHeartbeats 2000000 in
theorem term_63 (rb at_ R : Nat) (s : ByteArray) (w : World) (hR : Rd rb s at_ w) (ha : at_ < s.size) (hs : s.size ≤ 16384) (hRR : R ≤ 63) (hL : LibOk w) (h6 : 3 ≤ rb) (hT : TermAt rb R s) (c : UInt8) (hc : s[at_] = c) (hf : formOf c = some 74) :
    Calls Tryd.prog 65 #[.pointer (some ⟨rb, 0, none⟩), .int .i64 ((R : Int) + 1)] w (TermPost rb s (parse (R + 1) (s.data.toList.drop at_)) w) := by
  have hdrop : s.data.toList.drop at_ = c :: s.data.toList.drop (at_ + 1) := by
    rw [List.drop_eq_getElem_cons (by rw [Array.length_toList]; exact ha), ← hc]; rfl
  have HP := Lib.hid (parse_rest R c (s.data.toList.drop (at_ + 1)))
  rw [hdrop]
  obtain ⟨rr, hrr⟩ : ∃ rr, s.data.toList.drop (at_ + 1) = rr := ⟨_, rfl⟩
  have HRR := Lib.hid hrr
  rw [hrr] at HP ⊢
  obtain ⟨po, hpo⟩ : ∃ po, parse (R + 1) (c :: rr) = po := ⟨_, rfl⟩
  rw [hpo] at HP ⊢
  clear hdrop hrr hpo
  have hlt := hR.lt
  have HR := Lib.hid hR
  have HL := Lib.hid hL
  have q : ((at_ : Int) == (s.size : Int)) = false := beq_eq_false_iff_ne.mpr (by omega)
  have q2 : ((R : Int) + 1 == 0) = false := beq_eq_false_iff_ne.mpr (by omega)
  have I49 := Lib.hid info49
  have HF : Hid (∀ W, Calls Tryd.prog 70 #[.pointer (some ⟨rb, 0, none⟩), .int .u8 c.toNat] W (fun e w' => w' = W ∧ e = .returned (.func (.func 74) #[.pointer (some ⟨rb, 0, none⟩)] #[]))) := fun W => by
    have := form_any rb W c
    rw [hf] at this
    exact this
  have HCO := Lib.hid hf
  have hnil : ∀ W : World, (binOp BinOp.eql 123 (.func (.func 74) #[.pointer (some ⟨rb, 0, none⟩)] #[]) .nilFunc).run Tryd.prog W = .ok (.bool false) W := fun _ => by kernel_rfl
  clear hR hL hf
  go_enter Tryd.func65, Tryd.ntmps65
  go_upto_region 1 with fail
  have R4 := Lib.hid (heap_alloc_at w (.cells #[.int .u8 0, .int .i64 0, .string ⟨#[]⟩, .slice none 0 0, .int .i64 0] 102))
  have B0 := Lib.hid (below_new' w (.cells #[.int .u8 0, .int .i64 0, .string ⟨#[]⟩, .slice none 0 0, .int .i64 0] 102))
  have hz0 : w.heap.size < (w.alloc (.cells #[.int .u8 0, .int .i64 0, .string ⟨#[]⟩, .slice none 0 0, .int .i64 0] 102)).heap.size := by simp
  generalize w.alloc (.cells #[.int .u8 0, .int .i64 0, .string ⟨#[]⟩, .slice none 0 0, .int .i64 0] 102) = w0 at R4 B0 hz0 ⊢
  obtain ⟨r4, hr4⟩ : ∃ r4, w.heap.size = r4 := ⟨_, rfl⟩
  have HR4 := Lib.hid hr4
  rw [hr4] at R4 hlt hz0 ⊢
  clear hr4
  have hR0 := HR.out.below B0.out
  have hc0 := hR0.c0
  have hc1 := hR0.c1
  have hf1 := hR0.f 1
  clear hR0
  go_quiet (fail)
  have B1 := Lib.hid (B0.out.trans ((drewN_same w0 nq).1.mono B0.out.size))
  have R1 : Hid ((w0.drewN nq).heap[r4]? = some (.cells #[.int .u8 0, .int .i64 0, .string ⟨#[]⟩, .slice none 0 0, .int .i64 0] 102 (0, 0))) := R4.out
  have hz1 : r4 < (w0.drewN nq).heap.size := by rw [drewN_size]; exact hz0
  generalize w0.drewN nq = w1 at B1 R1 hz1 ⊢
  clear hc0 hc1 hf1 hz0 R4 B0
  go_upto_region 4 with fail
  have B2 : Hid (Below w.heap.size w (w1.alloc (.cells #[.int .u8 0, .int .i64 0, .string ⟨#[]⟩, .slice none 0 0, .int .i64 1] 102))) := B1.out.alloc B1.out.size _
  have R2 : Hid ((w1.alloc (.cells #[.int .u8 0, .int .i64 0, .string ⟨#[]⟩, .slice none 0 0, .int .i64 1] 102)).heap[r4]? = some (.cells #[.int .u8 0, .int .i64 0, .string ⟨#[]⟩, .slice none 0 0, .int .i64 0] 102 (0, 0))) := (Below.heap_alloc w1 _ r4 hz1).trans R1.out
  have X2 : Hid (Xs w1.heap.size 0 0 ⟨#[]⟩ (.slice none 0 0) 1 (w1.alloc (.cells #[.int .u8 0, .int .i64 0, .string ⟨#[]⟩, .slice none 0 0, .int .i64 1] 102))) := heap_alloc_at w1 _
  generalize w1.alloc (.cells #[.int .u8 0, .int .i64 0, .string ⟨#[]⟩, .slice none 0 0, .int .i64 1] 102) = w2 at B2 R2 X2 ⊢
  obtain ⟨xb, hxb⟩ : ∃ xb, w1.heap.size = xb := ⟨_, rfl⟩
  rw [hxb] at hz1 X2 ⊢
  clear hxb B1 R1
  have hR2 := HR.out.below B2.out
  have hc0 := hR2.c0
  have hc1 := hR2.c1
  have hf1 := hR2.f 1
  obtain ⟨x0, x1, x2, x3, x4⟩ := X2.out.c
  have hxf := fun o => X2.out.f o
  clear hR2
  go_region
  have hxw : w.heap.size ≤ xb := by have := HR4.out; omega
  have F3 : Hid (Fr (fun k => k = rb) w (w2.setCell ⟨xb, 0, none⟩ (.int .u8 c.toNat)).drew) := ((Fr.below B2.out).set' ⟨xb, 0, none⟩ _ (fun h => by have : xb < w.heap.size := h; omega)).drew
  have hxr : xb ≠ rb := by have := HR4.out; omega
  have R3 : Hid (Rd rb s at_ (w2.setCell ⟨xb, 0, none⟩ (.int .u8 c.toNat)).drew) := (HR.out.below B2.out).setX hxr _ _
  have X3 : Hid (Xs xb c.toNat 0 ⟨#[]⟩ (.slice none 0 0) 1 (w2.setCell ⟨xb, 0, none⟩ (.int .u8 c.toNat)).drew) := heap_setCell_same w2 xb 0 _ 102 _ X2.out
  have Q3 : Hid ((w2.setCell ⟨xb, 0, none⟩ (.int .u8 c.toNat)).drew.heap[r4]? = some (.cells #[.int .u8 0, .int .i64 0, .string ⟨#[]⟩, .slice none 0 0, .int .i64 0] 102 (0, 0))) := (Below.heap_setCell w2 ⟨xb, 0, none⟩ _ r4 (by show r4 ≠ xb; omega)).trans R2.out
  generalize (w2.setCell ⟨xb, 0, none⟩ (.int .u8 c.toNat)).drew = w3 at F3 R3 X3 Q3 ⊢
  clear hc0 hc1 hf1 x0 x1 x2 x3 x4 hxf B2 R2 X2
  have hc0 := R3.out.c0
  have hc1 := R3.out.c1
  have hf1 := R3.out.f 1
  have x0 := X3.out.c.1
  have hat : (at_ : Int) < 16384 := by omega
  go_upto_region 7 with (go_at_call 70; (with_reducible refine Calls.mono (HF.out _) ?_); rintro e w9 ⟨hw9, rfl⟩; subst hw9)
  have F4 : Hid (Fr (fun k => k = rb) w (w9.setCell ⟨rb, 1, none⟩ (.int .i64 ((at_ : Int) + 1)))) := F3.out.set' ⟨rb, 1, none⟩ _ (fun _ => rfl)
  have RR4 : Hid (Rd rb s ((at_ + 1 : Nat) : Int) (w9.setCell ⟨rb, 1, none⟩ (.int .i64 ((at_ : Int) + 1)))) := R3.out.set _
  have X4 : Hid (Xs xb c.toNat 0 ⟨#[]⟩ (.slice none 0 0) 1 (w9.setCell ⟨rb, 1, none⟩ (.int .i64 ((at_ : Int) + 1)))) := X3.out.setR hxr _ _
  have Q4 : Hid ((w9.setCell ⟨rb, 1, none⟩ (.int .i64 ((at_ : Int) + 1))).heap[r4]? = some (.cells #[.int .u8 0, .int .i64 0, .string ⟨#[]⟩, .slice none 0 0, .int .i64 0] 102 (0, 0))) := (Below.heap_setCell w9 ⟨rb, 1, none⟩ _ r4 (by show r4 ≠ rb; omega)).trans Q3.out
  generalize w9.setCell ⟨rb, 1, none⟩ (.int .i64 ((at_ : Int) + 1)) = w4 at F4 RR4 X4 Q4 ⊢
  clear hc0 hc1 hf1 x0 F3 R3 X3 Q3
  have L4 : Hid (LibOk w4) := HL.out.fr F4.out (by omega) (by omega)
  have HREST := Lib.hid (rest_any rb xb (at_ + 1) R 74 c s w4 HCO.out hs (by omega) RR4.out X4.out L4.out hxr (by omega) h6 (by omega) hT)
  rw [HRR.out] at HREST
  cases ho : restP R c rr with
  | none =>
    rw [ho] at HREST HP
    obtain rfl : po = none := HP.out
    clear ho
    go_wp2_with (first
      | (go_at_call 74; (with_reducible refine Calls.mono HREST.out ?_); rintro e w5 ⟨hf5, hno, _⟩; obtain ⟨rfl, z, m, d', u', kv', hz, _⟩ := hno rfl; have F5 := Lib.hid hf5; have Z5 := Lib.hid hz; have Q5 : Hid (w5.heap[r4]? = some (.cells #[.int .u8 0, .int .i64 0, .string ⟨#[]⟩, .slice none 0 0, .int .i64 0] 102 (0, 0))) := (hf5.block r4 (Array.getElem?_eq_some_iff.1 Q4.out).1 (by rintro (h | h) <;> omega)).trans Q4.out; clear hf5 hno hz)
      | (with_reducible refine wpList_store_row rfl 102 (.tmp 4) (.tmp 60) rfl r4 #[.int .u8 0, .int .i64 0, .string ⟨#[]⟩, .slice none 0 0, .int .i64 0] rfl rfl 102 #[.int .u8 0, .int .i64 0, .string ⟨#[]⟩, .slice none 0 0, .int .i64 0] Q5.out (info5s _ _ _ _ _) (size5s _ _ _ _ _ _ _ _ _ _) (one5s _ _ _ _ _ _ _) ?_))
    have hl := run_loadVar_row (P := Tryd.prog) (w5.setRow r4 #[.int .u8 0, .int .i64 0, .string ⟨#[]⟩, .slice none 0 0, .int .i64 0]) r4 102 102 #[.int .u8 0, .int .i64 0, .string ⟨#[]⟩, .slice none 0 0, .int .i64 0] (0, 0) _ (setRow_heap w5 r4 _ _ 102 _ Q5.out) Tryd.underlying102 rfl (info5s _ _ _ _ _)
    refine bodyPost_ret (results_cell_tmp Tryd.results65 _ _ _ rfl hl) rfl ⟨?_, ⟨z, ?_⟩, fun _ => rfl, fun x rest h => by cases h⟩
    · exact ((F4.out.trans' F5.out (fun i hi h => h.resolve_right (fun e => by omega))).setR r4 _ (fun h => by have := HR4.out; omega)).grownBy
    · show Rd rb s z _
      exact (setRow_other _ _ rb _ (by omega)).trans Z5.out
  | some y =>
    obtain ⟨n, t, ks, d, u'⟩ := y
    have RK := Lib.hid (rest_kids ho)
    rw [ho] at HREST HP
    clear ho
    have hr4w : r4 < w4.heap.size := (Array.getElem?_eq_some_iff.1 Q4.out).1
    cases hfb : fitsB c ks with
    | false =>
      have HFB := Lib.hid hfb
      obtain rfl : po = none := by have := HP.out; simpa [hfb] using this
      clear hfb
      go_wp2_with (first
        | (go_at_call 74; (with_reducible refine Calls.mono HREST.out ?_); rintro e w5 ⟨hf5, _, hyes⟩; obtain ⟨rfl, a5, u5, kv, ha5, hd5, hu5, hz, hx5, hk5⟩ := hyes n t ks d u' rfl; obtain ⟨ko, km, kc, rfl⟩ := kids_slice hk5; have F5 := Lib.hid hf5; have Z5 := Lib.hid hz; have X5 := Lib.hid hx5; have K5 := Lib.hid hk5; have D5 := Lib.hid hd5; have U5 := Lib.hid hu5; have A5 := Lib.hid ha5; have Q5 : Hid (w5.heap[r4]? = some (.cells #[.int .u8 0, .int .i64 0, .string ⟨#[]⟩, .slice none 0 0, .int .i64 0] 102 (0, 0))) := (hf5.block r4 (Array.getElem?_eq_some_iff.1 Q4.out).1 (by rintro (h | h) <;> omega)).trans Q4.out; obtain ⟨x0, x1, x2, x3, x4⟩ := hx5.c; have HFITS := Lib.hid (fits_any w4.heap.size c n d u5 ko km kc ks w5 hk5 RK.out.1 RK.out.2); (rw [HFB.out] at HFITS); clear hf5 hyes hz hx5 hk5 hd5 hu5 ha5)
        | (go_at_call 71; (with_reducible refine Calls.mono HFITS.out ?_); rintro e w6 ⟨hb6, rfl⟩; have B6 := Lib.hid hb6; have X6 := Lib.hid (X5.out.fr (S := fun _ => False) (Fr.below hb6) id); have Q6 : Hid (w6.heap[r4]? = some (.cells #[.int .u8 0, .int .i64 0, .string ⟨#[]⟩, .slice none 0 0, .int .i64 0] 102 (0, 0))) := (hb6.block r4 (Array.getElem?_eq_some_iff.1 Q5.out).1).trans Q5.out; obtain ⟨y0, y1, y2, y3, y4⟩ := X6.out.c; clear hb6)
        | (with_reducible refine wpList_store_row rfl 102 (.tmp 4) (.tmp 60) rfl r4 #[.int .u8 0, .int .i64 0, .string ⟨#[]⟩, .slice none 0 0, .int .i64 0] rfl rfl 102 #[.int .u8 0, .int .i64 0, .string ⟨#[]⟩, .slice none 0 0, .int .i64 0] Q6.out (info5s _ _ _ _ _) (size5s _ _ _ _ _ _ _ _ _ _) (one5s _ _ _ _ _ _ _) ?_))
      have hl := run_loadVar_row (P := Tryd.prog) (w6.setRow r4 #[.int .u8 0, .int .i64 0, .string ⟨#[]⟩, .slice none 0 0, .int .i64 0]) r4 102 102 #[.int .u8 0, .int .i64 0, .string ⟨#[]⟩, .slice none 0 0, .int .i64 0] (0, 0) _ (setRow_heap w6 r4 _ _ 102 _ Q6.out) Tryd.underlying102 rfl (info5s _ _ _ _ _)
      refine bodyPost_ret (results_cell_tmp Tryd.results65 _ _ _ rfl hl) rfl ⟨?_, ⟨(a5 : Int), ?_⟩, fun _ => rfl, fun x rest h => by cases h⟩
      · exact (((F4.out.trans' F5.out (fun i hi h => h.resolve_right (fun e => by omega))).trans (Fr.below B6.out)).setR r4 _ (fun h => by have := HR4.out; omega)).grownBy
      · show Rd rb s a5 _
        exact (setRow_other _ _ rb _ (by omega)).trans (Z5.out.below B6.out)
    | true =>
      have HFB := Lib.hid hfb
      obtain rfl : po = some (⟨c, n, t, ks, d⟩, u') := by have := HP.out; simpa [hfb] using this
      clear hfb
      go_wp2_with (first
        | (go_at_call 74; (with_reducible refine Calls.mono HREST.out ?_); rintro e w5 ⟨hf5, _, hyes⟩; obtain ⟨rfl, a5, u5, kv, ha5, hd5, hu5, hz, hx5, hk5⟩ := hyes n t ks d u' rfl; obtain ⟨ko, km, kc, rfl⟩ := kids_slice hk5; have F5 := Lib.hid hf5; have Z5 := Lib.hid hz; have X5 := Lib.hid hx5; have K5 := Lib.hid hk5; have D5 := Lib.hid hd5; have U5 := Lib.hid hu5; have A5 := Lib.hid ha5; have Q5 : Hid (w5.heap[r4]? = some (.cells #[.int .u8 0, .int .i64 0, .string ⟨#[]⟩, .slice none 0 0, .int .i64 0] 102 (0, 0))) := (hf5.block r4 (Array.getElem?_eq_some_iff.1 Q4.out).1 (by rintro (h | h) <;> omega)).trans Q4.out; obtain ⟨x0, x1, x2, x3, x4⟩ := hx5.c; have HFITS := Lib.hid (fits_any w4.heap.size c n d u5 ko km kc ks w5 hk5 RK.out.1 RK.out.2); (rw [HFB.out] at HFITS); clear hf5 hyes hz hx5 hk5 hd5 hu5 ha5)
        | (go_at_call 71; (with_reducible refine Calls.mono HFITS.out ?_); rintro e w6 ⟨hb6, rfl⟩; have B6 := Lib.hid hb6; have X6 := Lib.hid (X5.out.fr (S := fun _ => False) (Fr.below hb6) id); have Q6 : Hid (w6.heap[r4]? = some (.cells #[.int .u8 0, .int .i64 0, .string ⟨#[]⟩, .slice none 0 0, .int .i64 0] 102 (0, 0))) := (hb6.block r4 (Array.getElem?_eq_some_iff.1 Q5.out).1).trans Q5.out; obtain ⟨y0, y1, y2, y3, y4⟩ := X6.out.c; clear hb6)
        | (with_reducible refine wpList_store_row rfl 102 (.tmp 4) (.tmp 61) rfl r4 #[.int .u8 c.toNat, .int .i64 n, .string u5, .slice ko km kc, .int .i64 d] rfl rfl 102 #[.int .u8 0, .int .i64 0, .string ⟨#[]⟩, .slice none 0 0, .int .i64 0] Q6.out (info5s _ _ _ _ _) (size5s _ _ _ _ _ _ _ _ _ _) (one5s _ _ _ _ _ _ _) ?_))
      have hl := run_loadVar_row (P := Tryd.prog) (w6.setRow r4 #[.int .u8 c.toNat, .int .i64 n, .string u5, .slice ko km kc, .int .i64 d]) r4 102 102 #[.int .u8 c.toNat, .int .i64 n, .string u5, .slice ko km kc, .int .i64 d] (0, 0) _ (setRow_heap w6 r4 _ _ 102 _ Q6.out) Tryd.underlying102 rfl (info5s _ _ _ _ _)
      have hR6 : Rd rb s a5 (w6.setRow r4 #[.int .u8 c.toNat, .int .i64 n, .string u5, .slice ko km kc, .int .i64 d]) := (setRow_other _ _ rb _ (by omega)).trans (Z5.out.below B6.out)
      refine bodyPost_ret (results_cell_tmp Tryd.results65 _ _ _ rfl hl) rfl ⟨?_, ⟨_, hR6⟩, fun h => (by cases h), fun x rest h => ?_⟩
      · exact (((F4.out.trans' F5.out (fun i hi h => h.resolve_right (fun e => by omega))).trans (Fr.below B6.out)).setR r4 _ (fun h => by have := HR4.out; omega)).grownBy
      · cases h
        refine ⟨a5, u5, ko, km, kc, rfl, U5.out, A5.out, hR6, D5.out, ?_⟩
        refine kids_base (kids_fr (S := fun k => k = r4) K5.out ((Fr.below B6.out).setR r4 _ (fun _ => rfl)) (fun g hg e => ?_)) F4.out.size
        have := (kids_lt K5.out g hg).1
        omega
set_option maxRecDepth 100000 in
set_option maxHeartbeats 2000000 in
theorem term_64 (rb at_ R : Nat) (s : ByteArray) (w : World) (hR : Rd rb s at_ w) (ha : at_ < s.size) (hs : s.size ≤ 16384) (hRR : R ≤ 63) (hL : LibOk w) (h6 : 3 ≤ rb) (hT : TermAt rb R s) (c : UInt8) (hc : s[at_] = c) (hf : formOf c = some 75) :
    Calls Tryd.prog 65 #[.pointer (some ⟨rb, 0, none⟩), .int .i64 ((R : Int) + 1)] w (TermPost rb s (parse (R + 1) (s.data.toList.drop at_)) w) := by
  have hdrop : s.data.toList.drop at_ = c :: s.data.toList.drop (at_ + 1) := by
    rw [List.drop_eq_getElem_cons (by rw [Array.length_toList]; exact ha), ← hc]; rfl
  have HP := Lib.hid (parse_rest R c (s.data.toList.drop (at_ + 1)))
  rw [hdrop]
  obtain ⟨rr, hrr⟩ : ∃ rr, s.data.toList.drop (at_ + 1) = rr := ⟨_, rfl⟩
  have HRR := Lib.hid hrr
  rw [hrr] at HP ⊢
  obtain ⟨po, hpo⟩ : ∃ po, parse (R + 1) (c :: rr) = po := ⟨_, rfl⟩
  rw [hpo] at HP ⊢
  clear hdrop hrr hpo
  have hlt := hR.lt
  have HR := Lib.hid hR
  have HL := Lib.hid hL
  have q : ((at_ : Int) == (s.size : Int)) = false := beq_eq_false_iff_ne.mpr (by omega)
  have q2 : ((R : Int) + 1 == 0) = false := beq_eq_false_iff_ne.mpr (by omega)
  have I49 := Lib.hid info49
  have HF : Hid (∀ W, Calls Tryd.prog 70 #[.pointer (some ⟨rb, 0, none⟩), .int .u8 c.toNat] W (fun e w' => w' = W ∧ e = .returned (.func (.func 75) #[.pointer (some ⟨rb, 0, none⟩)] #[]))) := fun W => by
    have := form_any rb W c
    rw [hf] at this
    exact this
  have HCO := Lib.hid hf
  have hnil : ∀ W : World, (binOp BinOp.eql 123 (.func (.func 75) #[.pointer (some ⟨rb, 0, none⟩)] #[]) .nilFunc).run Tryd.prog W = .ok (.bool false) W := fun _ => by kernel_rfl
  clear hR hL hf
  go_enter Tryd.func65, Tryd.ntmps65
  go_upto_region 1 with fail
  have R4 := Lib.hid (heap_alloc_at w (.cells #[.int .u8 0, .int .i64 0, .string ⟨#[]⟩, .slice none 0 0, .int .i64 0] 102))
  have B0 := Lib.hid (below_new' w (.cells #[.int .u8 0, .int .i64 0, .string ⟨#[]⟩, .slice none 0 0, .int .i64 0] 102))
  have hz0 : w.heap.size < (w.alloc (.cells #[.int .u8 0, .int .i64 0, .string ⟨#[]⟩, .slice none 0 0, .int .i64 0] 102)).heap.size := by simp
  generalize w.alloc (.cells #[.int .u8 0, .int .i64 0, .string ⟨#[]⟩, .slice none 0 0, .int .i64 0] 102) = w0 at R4 B0 hz0 ⊢
  obtain ⟨r4, hr4⟩ : ∃ r4, w.heap.size = r4 := ⟨_, rfl⟩
  have HR4 := Lib.hid hr4
  rw [hr4] at R4 hlt hz0 ⊢
  clear hr4
  have hR0 := HR.out.below B0.out
  have hc0 := hR0.c0
  have hc1 := hR0.c1
  have hf1 := hR0.f 1
  clear hR0
  go_quiet (fail)
  have B1 := Lib.hid (B0.out.trans ((drewN_same w0 nq).1.mono B0.out.size))
  have R1 : Hid ((w0.drewN nq).heap[r4]? = some (.cells #[.int .u8 0, .int .i64 0, .string ⟨#[]⟩, .slice none 0 0, .int .i64 0] 102 (0, 0))) := R4.out
  have hz1 : r4 < (w0.drewN nq).heap.size := by rw [drewN_size]; exact hz0
  generalize w0.drewN nq = w1 at B1 R1 hz1 ⊢
  clear hc0 hc1 hf1 hz0 R4 B0
  go_upto_region 4 with fail
  have B2 : Hid (Below w.heap.size w (w1.alloc (.cells #[.int .u8 0, .int .i64 0, .string ⟨#[]⟩, .slice none 0 0, .int .i64 1] 102))) := B1.out.alloc B1.out.size _
  have R2 : Hid ((w1.alloc (.cells #[.int .u8 0, .int .i64 0, .string ⟨#[]⟩, .slice none 0 0, .int .i64 1] 102)).heap[r4]? = some (.cells #[.int .u8 0, .int .i64 0, .string ⟨#[]⟩, .slice none 0 0, .int .i64 0] 102 (0, 0))) := (Below.heap_alloc w1 _ r4 hz1).trans R1.out
  have X2 : Hid (Xs w1.heap.size 0 0 ⟨#[]⟩ (.slice none 0 0) 1 (w1.alloc (.cells #[.int .u8 0, .int .i64 0, .string ⟨#[]⟩, .slice none 0 0, .int .i64 1] 102))) := heap_alloc_at w1 _
  generalize w1.alloc (.cells #[.int .u8 0, .int .i64 0, .string ⟨#[]⟩, .slice none 0 0, .int .i64 1] 102) = w2 at B2 R2 X2 ⊢
  obtain ⟨xb, hxb⟩ : ∃ xb, w1.heap.size = xb := ⟨_, rfl⟩
  rw [hxb] at hz1 X2 ⊢
  clear hxb B1 R1
  have hR2 := HR.out.below B2.out
  have hc0 := hR2.c0
  have hc1 := hR2.c1
  have hf1 := hR2.f 1
  obtain ⟨x0, x1, x2, x3, x4⟩ := X2.out.c
  have hxf := fun o => X2.out.f o
  clear hR2
  go_region
  have hxw : w.heap.size ≤ xb := by have := HR4.out; omega
  have F3 : Hid (Fr (fun k => k = rb) w (w2.setCell ⟨xb, 0, none⟩ (.int .u8 c.toNat)).drew) := ((Fr.below B2.out).set' ⟨xb, 0, none⟩ _ (fun h => by have : xb < w.heap.size := h; omega)).drew
  have hxr : xb ≠ rb := by have := HR4.out; omega
  have R3 : Hid (Rd rb s at_ (w2.setCell ⟨xb, 0, none⟩ (.int .u8 c.toNat)).drew) := (HR.out.below B2.out).setX hxr _ _
  have X3 : Hid (Xs xb c.toNat 0 ⟨#[]⟩ (.slice none 0 0) 1 (w2.setCell ⟨xb, 0, none⟩ (.int .u8 c.toNat)).drew) := heap_setCell_same w2 xb 0 _ 102 _ X2.out
  have Q3 : Hid ((w2.setCell ⟨xb, 0, none⟩ (.int .u8 c.toNat)).drew.heap[r4]? = some (.cells #[.int .u8 0, .int .i64 0, .string ⟨#[]⟩, .slice none 0 0, .int .i64 0] 102 (0, 0))) := (Below.heap_setCell w2 ⟨xb, 0, none⟩ _ r4 (by show r4 ≠ xb; omega)).trans R2.out
  generalize (w2.setCell ⟨xb, 0, none⟩ (.int .u8 c.toNat)).drew = w3 at F3 R3 X3 Q3 ⊢
  clear hc0 hc1 hf1 x0 x1 x2 x3 x4 hxf B2 R2 X2
  have hc0 := R3.out.c0
  have hc1 := R3.out.c1
  have hf1 := R3.out.f 1
  have x0 := X3.out.c.1
  have hat : (at_ : Int) < 16384 := by omega
  go_upto_region 7 with (go_at_call 70; (with_reducible refine Calls.mono (HF.out _) ?_); rintro e w9 ⟨hw9, rfl⟩; subst hw9)
  have F4 : Hid (Fr (fun k => k = rb) w (w9.setCell ⟨rb, 1, none⟩ (.int .i64 ((at_ : Int) + 1)))) := F3.out.set' ⟨rb, 1, none⟩ _ (fun _ => rfl)
  have RR4 : Hid (Rd rb s ((at_ + 1 : Nat) : Int) (w9.setCell ⟨rb, 1, none⟩ (.int .i64 ((at_ : Int) + 1)))) := R3.out.set _
  have X4 : Hid (Xs xb c.toNat 0 ⟨#[]⟩ (.slice none 0 0) 1 (w9.setCell ⟨rb, 1, none⟩ (.int .i64 ((at_ : Int) + 1)))) := X3.out.setR hxr _ _
  have Q4 : Hid ((w9.setCell ⟨rb, 1, none⟩ (.int .i64 ((at_ : Int) + 1))).heap[r4]? = some (.cells #[.int .u8 0, .int .i64 0, .string ⟨#[]⟩, .slice none 0 0, .int .i64 0] 102 (0, 0))) := (Below.heap_setCell w9 ⟨rb, 1, none⟩ _ r4 (by show r4 ≠ rb; omega)).trans Q3.out
  generalize w9.setCell ⟨rb, 1, none⟩ (.int .i64 ((at_ : Int) + 1)) = w4 at F4 RR4 X4 Q4 ⊢
  clear hc0 hc1 hf1 x0 F3 R3 X3 Q3
  have L4 : Hid (LibOk w4) := HL.out.fr F4.out (by omega) (by omega)
  have HREST := Lib.hid (rest_any rb xb (at_ + 1) R 75 c s w4 HCO.out hs (by omega) RR4.out X4.out L4.out hxr (by omega) h6 (by omega) hT)
  rw [HRR.out] at HREST
  cases ho : restP R c rr with
  | none =>
    rw [ho] at HREST HP
    obtain rfl : po = none := HP.out
    clear ho
    go_wp2_with (first
      | (go_at_call 75; (with_reducible refine Calls.mono HREST.out ?_); rintro e w5 ⟨hf5, hno, _⟩; obtain ⟨rfl, z, m, d', u', kv', hz, _⟩ := hno rfl; have F5 := Lib.hid hf5; have Z5 := Lib.hid hz; have Q5 : Hid (w5.heap[r4]? = some (.cells #[.int .u8 0, .int .i64 0, .string ⟨#[]⟩, .slice none 0 0, .int .i64 0] 102 (0, 0))) := (hf5.block r4 (Array.getElem?_eq_some_iff.1 Q4.out).1 (by rintro (h | h) <;> omega)).trans Q4.out; clear hf5 hno hz)
      | (with_reducible refine wpList_store_row rfl 102 (.tmp 4) (.tmp 60) rfl r4 #[.int .u8 0, .int .i64 0, .string ⟨#[]⟩, .slice none 0 0, .int .i64 0] rfl rfl 102 #[.int .u8 0, .int .i64 0, .string ⟨#[]⟩, .slice none 0 0, .int .i64 0] Q5.out (info5s _ _ _ _ _) (size5s _ _ _ _ _ _ _ _ _ _) (one5s _ _ _ _ _ _ _) ?_))
    have hl := run_loadVar_row (P := Tryd.prog) (w5.setRow r4 #[.int .u8 0, .int .i64 0, .string ⟨#[]⟩, .slice none 0 0, .int .i64 0]) r4 102 102 #[.int .u8 0, .int .i64 0, .string ⟨#[]⟩, .slice none 0 0, .int .i64 0] (0, 0) _ (setRow_heap w5 r4 _ _ 102 _ Q5.out) Tryd.underlying102 rfl (info5s _ _ _ _ _)
    refine bodyPost_ret (results_cell_tmp Tryd.results65 _ _ _ rfl hl) rfl ⟨?_, ⟨z, ?_⟩, fun _ => rfl, fun x rest h => by cases h⟩
    · exact ((F4.out.trans' F5.out (fun i hi h => h.resolve_right (fun e => by omega))).setR r4 _ (fun h => by have := HR4.out; omega)).grownBy
    · show Rd rb s z _
      exact (setRow_other _ _ rb _ (by omega)).trans Z5.out
  | some y =>
    obtain ⟨n, t, ks, d, u'⟩ := y
    have RK := Lib.hid (rest_kids ho)
    rw [ho] at HREST HP
    clear ho
    have hr4w : r4 < w4.heap.size := (Array.getElem?_eq_some_iff.1 Q4.out).1
    cases hfb : fitsB c ks with
    | false =>
      have HFB := Lib.hid hfb
      obtain rfl : po = none := by have := HP.out; simpa [hfb] using this
      clear hfb
      go_wp2_with (first
        | (go_at_call 75; (with_reducible refine Calls.mono HREST.out ?_); rintro e w5 ⟨hf5, _, hyes⟩; obtain ⟨rfl, a5, u5, kv, ha5, hd5, hu5, hz, hx5, hk5⟩ := hyes n t ks d u' rfl; obtain ⟨ko, km, kc, rfl⟩ := kids_slice hk5; have F5 := Lib.hid hf5; have Z5 := Lib.hid hz; have X5 := Lib.hid hx5; have K5 := Lib.hid hk5; have D5 := Lib.hid hd5; have U5 := Lib.hid hu5; have A5 := Lib.hid ha5; have Q5 : Hid (w5.heap[r4]? = some (.cells #[.int .u8 0, .int .i64 0, .string ⟨#[]⟩, .slice none 0 0, .int .i64 0] 102 (0, 0))) := (hf5.block r4 (Array.getElem?_eq_some_iff.1 Q4.out).1 (by rintro (h | h) <;> omega)).trans Q4.out; obtain ⟨x0, x1, x2, x3, x4⟩ := hx5.c; have HFITS := Lib.hid (fits_any w4.heap.size c n d u5 ko km kc ks w5 hk5 RK.out.1 RK.out.2); (rw [HFB.out] at HFITS); clear hf5 hyes hz hx5 hk5 hd5 hu5 ha5)
        | (go_at_call 71; (with_reducible refine Calls.mono HFITS.out ?_); rintro e w6 ⟨hb6, rfl⟩; have B6 := Lib.hid hb6; have X6 := Lib.hid (X5.out.fr (S := fun _ => False) (Fr.below hb6) id); have Q6 : Hid (w6.heap[r4]? = some (.cells #[.int .u8 0, .int .i64 0, .string ⟨#[]⟩, .slice none 0 0, .int .i64 0] 102 (0, 0))) := (hb6.block r4 (Array.getElem?_eq_some_iff.1 Q5.out).1).trans Q5.out; obtain ⟨y0, y1, y2, y3, y4⟩ := X6.out.c; clear hb6)
        | (with_reducible refine wpList_store_row rfl 102 (.tmp 4) (.tmp 60) rfl r4 #[.int .u8 0, .int .i64 0, .string ⟨#[]⟩, .slice none 0 0, .int .i64 0] rfl rfl 102 #[.int .u8 0, .int .i64 0, .string ⟨#[]⟩, .slice none 0 0, .int .i64 0] Q6.out (info5s _ _ _ _ _) (size5s _ _ _ _ _ _ _ _ _ _) (one5s _ _ _ _ _ _ _) ?_))
      have hl := run_loadVar_row (P := Tryd.prog) (w6.setRow r4 #[.int .u8 0, .int .i64 0, .string ⟨#[]⟩, .slice none 0 0, .int .i64 0]) r4 102 102 #[.int .u8 0, .int .i64 0, .string ⟨#[]⟩, .slice none 0 0, .int .i64 0] (0, 0) _ (setRow_heap w6 r4 _ _ 102 _ Q6.out) Tryd.underlying102 rfl (info5s _ _ _ _ _)
      refine bodyPost_ret (results_cell_tmp Tryd.results65 _ _ _ rfl hl) rfl ⟨?_, ⟨(a5 : Int), ?_⟩, fun _ => rfl, fun x rest h => by cases h⟩
      · exact (((F4.out.trans' F5.out (fun i hi h => h.resolve_right (fun e => by omega))).trans (Fr.below B6.out)).setR r4 _ (fun h => by have := HR4.out; omega)).grownBy
      · show Rd rb s a5 _
        exact (setRow_other _ _ rb _ (by omega)).trans (Z5.out.below B6.out)
    | true =>
      have HFB := Lib.hid hfb
      obtain rfl : po = some (⟨c, n, t, ks, d⟩, u') := by have := HP.out; simpa [hfb] using this
      clear hfb
      go_wp2_with (first
        | (go_at_call 75; (with_reducible refine Calls.mono HREST.out ?_); rintro e w5 ⟨hf5, _, hyes⟩; obtain ⟨rfl, a5, u5, kv, ha5, hd5, hu5, hz, hx5, hk5⟩ := hyes n t ks d u' rfl; obtain ⟨ko, km, kc, rfl⟩ := kids_slice hk5; have F5 := Lib.hid hf5; have Z5 := Lib.hid hz; have X5 := Lib.hid hx5; have K5 := Lib.hid hk5; have D5 := Lib.hid hd5; have U5 := Lib.hid hu5; have A5 := Lib.hid ha5; have Q5 : Hid (w5.heap[r4]? = some (.cells #[.int .u8 0, .int .i64 0, .string ⟨#[]⟩, .slice none 0 0, .int .i64 0] 102 (0, 0))) := (hf5.block r4 (Array.getElem?_eq_some_iff.1 Q4.out).1 (by rintro (h | h) <;> omega)).trans Q4.out; obtain ⟨x0, x1, x2, x3, x4⟩ := hx5.c; have HFITS := Lib.hid (fits_any w4.heap.size c n d u5 ko km kc ks w5 hk5 RK.out.1 RK.out.2); (rw [HFB.out] at HFITS); clear hf5 hyes hz hx5 hk5 hd5 hu5 ha5)
        | (go_at_call 71; (with_reducible refine Calls.mono HFITS.out ?_); rintro e w6 ⟨hb6, rfl⟩; have B6 := Lib.hid hb6; have X6 := Lib.hid (X5.out.fr (S := fun _ => False) (Fr.below hb6) id); have Q6 : Hid (w6.heap[r4]? = some (.cells #[.int .u8 0, .int .i64 0, .string ⟨#[]⟩, .slice none 0 0, .int .i64 0] 102 (0, 0))) := (hb6.block r4 (Array.getElem?_eq_some_iff.1 Q5.out).1).trans Q5.out; obtain ⟨y0, y1, y2, y3, y4⟩ := X6.out.c; clear hb6)
        | (with_reducible refine wpList_store_row rfl 102 (.tmp 4) (.tmp 61) rfl r4 #[.int .u8 c.toNat, .int .i64 n, .string u5, .slice ko km kc, .int .i64 d] rfl rfl 102 #[.int .u8 0, .int .i64 0, .string ⟨#[]⟩, .slice none 0 0, .int .i64 0] Q6.out (info5s _ _ _ _ _) (size5s _ _ _ _ _ _ _ _ _ _) (one5s _ _ _ _ _ _ _) ?_))
      have hl := run_loadVar_row (P := Tryd.prog) (w6.setRow r4 #[.int .u8 c.toNat, .int .i64 n, .string u5, .slice ko km kc, .int .i64 d]) r4 102 102 #[.int .u8 c.toNat, .int .i64 n, .string u5, .slice ko km kc, .int .i64 d] (0, 0) _ (setRow_heap w6 r4 _ _ 102 _ Q6.out) Tryd.underlying102 rfl (info5s _ _ _ _ _)
      have hR6 : Rd rb s a5 (w6.setRow r4 #[.int .u8 c.toNat, .int .i64 n, .string u5, .slice ko km kc, .int .i64 d]) := (setRow_other _ _ rb _ (by omega)).trans (Z5.out.below B6.out)
      refine bodyPost_ret (results_cell_tmp Tryd.results65 _ _ _ rfl hl) rfl ⟨?_, ⟨_, hR6⟩, fun h => (by cases h), fun x rest h => ?_⟩
      · exact (((F4.out.trans' F5.out (fun i hi h => h.resolve_right (fun e => by omega))).trans (Fr.below B6.out)).setR r4 _ (fun h => by have := HR4.out; omega)).grownBy
      · cases h
        refine ⟨a5, u5, ko, km, kc, rfl, U5.out, A5.out, hR6, D5.out, ?_⟩
        refine kids_base (kids_fr (S := fun k => k = r4) K5.out ((Fr.below B6.out).setR r4 _ (fun _ => rfl)) (fun g hg e => ?_)) F4.out.size
        have := (kids_lt K5.out g hg).1
        omega
set_option maxRecDepth 100000 in
set_option maxHeartbeats 2000000 in
theorem term_65 (rb at_ R : Nat) (s : ByteArray) (w : World) (hR : Rd rb s at_ w) (ha : at_ < s.size) (hs : s.size ≤ 16384) (hRR : R ≤ 63) (hL : LibOk w) (h6 : 3 ≤ rb) (hT : TermAt rb R s) (c : UInt8) (hc : s[at_] = c) (hf : formOf c = some 76) :
    Calls Tryd.prog 65 #[.pointer (some ⟨rb, 0, none⟩), .int .i64 ((R : Int) + 1)] w (TermPost rb s (parse (R + 1) (s.data.toList.drop at_)) w) := by
  have hdrop : s.data.toList.drop at_ = c :: s.data.toList.drop (at_ + 1) := by
    rw [List.drop_eq_getElem_cons (by rw [Array.length_toList]; exact ha), ← hc]; rfl
  have HP := Lib.hid (parse_rest R c (s.data.toList.drop (at_ + 1)))
  rw [hdrop]
  obtain ⟨rr, hrr⟩ : ∃ rr, s.data.toList.drop (at_ + 1) = rr := ⟨_, rfl⟩
  have HRR := Lib.hid hrr
  rw [hrr] at HP ⊢
  obtain ⟨po, hpo⟩ : ∃ po, parse (R + 1) (c :: rr) = po := ⟨_, rfl⟩
  rw [hpo] at HP ⊢
  clear hdrop hrr hpo
  have hlt := hR.lt
  have HR := Lib.hid hR
  have HL := Lib.hid hL
  have q : ((at_ : Int) == (s.size : Int)) = false := beq_eq_false_iff_ne.mpr (by omega)
  have q2 : ((R : Int) + 1 == 0) = false := beq_eq_false_iff_ne.mpr (by omega)
  have I49 := Lib.hid info49
  have HF : Hid (∀ W, Calls Tryd.prog 70 #[.pointer (some ⟨rb, 0, none⟩), .int .u8 c.toNat] W (fun e w' => w' = W ∧ e = .returned (.func (.func 76) #[.pointer (some ⟨rb, 0, none⟩)] #[]))) := fun W => by
    have := form_any rb W c
    rw [hf] at this
    exact this
  have HCO := Lib.hid hf
  have hnil : ∀ W : World, (binOp BinOp.eql 123 (.func (.func 76) #[.pointer (some ⟨rb, 0, none⟩)] #[]) .nilFunc).run Tryd.prog W = .ok (.bool false) W := fun _ => by kernel_rfl
  clear hR hL hf
  go_enter Tryd.func65, Tryd.ntmps65
  go_upto_region 1 with fail
  have R4 := Lib.hid (heap_alloc_at w (.cells #[.int .u8 0, .int .i64 0, .string ⟨#[]⟩, .slice none 0 0, .int .i64 0] 102))
  have B0 := Lib.hid (below_new' w (.cells #[.int .u8 0, .int .i64 0, .string ⟨#[]⟩, .slice none 0 0, .int .i64 0] 102))
  have hz0 : w.heap.size < (w.alloc (.cells #[.int .u8 0, .int .i64 0, .string ⟨#[]⟩, .slice none 0 0, .int .i64 0] 102)).heap.size := by simp
  generalize w.alloc (.cells #[.int .u8 0, .int .i64 0, .string ⟨#[]⟩, .slice none 0 0, .int .i64 0] 102) = w0 at R4 B0 hz0 ⊢
  obtain ⟨r4, hr4⟩ : ∃ r4, w.heap.size = r4 := ⟨_, rfl⟩
  have HR4 := Lib.hid hr4
  rw [hr4] at R4 hlt hz0 ⊢
  clear hr4
  have hR0 := HR.out.below B0.out
  have hc0 := hR0.c0
  have hc1 := hR0.c1
  have hf1 := hR0.f 1
  clear hR0
  go_quiet (fail)
  have B1 := Lib.hid (B0.out.trans ((drewN_same w0 nq).1.mono B0.out.size))
  have R1 : Hid ((w0.drewN nq).heap[r4]? = some (.cells #[.int .u8 0, .int .i64 0, .string ⟨#[]⟩, .slice none 0 0, .int .i64 0] 102 (0, 0))) := R4.out
  have hz1 : r4 < (w0.drewN nq).heap.size := by rw [drewN_size]; exact hz0
  generalize w0.drewN nq = w1 at B1 R1 hz1 ⊢
  clear hc0 hc1 hf1 hz0 R4 B0
  go_upto_region 4 with fail
  have B2 : Hid (Below w.heap.size w (w1.alloc (.cells #[.int .u8 0, .int .i64 0, .string ⟨#[]⟩, .slice none 0 0, .int .i64 1] 102))) := B1.out.alloc B1.out.size _
  have R2 : Hid ((w1.alloc (.cells #[.int .u8 0, .int .i64 0, .string ⟨#[]⟩, .slice none 0 0, .int .i64 1] 102)).heap[r4]? = some (.cells #[.int .u8 0, .int .i64 0, .string ⟨#[]⟩, .slice none 0 0, .int .i64 0] 102 (0, 0))) := (Below.heap_alloc w1 _ r4 hz1).trans R1.out
  have X2 : Hid (Xs w1.heap.size 0 0 ⟨#[]⟩ (.slice none 0 0) 1 (w1.alloc (.cells #[.int .u8 0, .int .i64 0, .string ⟨#[]⟩, .slice none 0 0, .int .i64 1] 102))) := heap_alloc_at w1 _
  generalize w1.alloc (.cells #[.int .u8 0, .int .i64 0, .string ⟨#[]⟩, .slice none 0 0, .int .i64 1] 102) = w2 at B2 R2 X2 ⊢
  obtain ⟨xb, hxb⟩ : ∃ xb, w1.heap.size = xb := ⟨_, rfl⟩
  rw [hxb] at hz1 X2 ⊢
  clear hxb B1 R1
  have hR2 := HR.out.below B2.out
  have hc0 := hR2.c0
  have hc1 := hR2.c1
  have hf1 := hR2.f 1
  obtain ⟨x0, x1, x2, x3, x4⟩ := X2.out.c
  have hxf := fun o => X2.out.f o
  clear hR2
  go_region
  have hxw : w.heap.size ≤ xb := by have := HR4.out; omega
  have F3 : Hid (Fr (fun k => k = rb) w (w2.setCell ⟨xb, 0, none⟩ (.int .u8 c.toNat)).drew) := ((Fr.below B2.out).set' ⟨xb, 0, none⟩ _ (fun h => by have : xb < w.heap.size := h; omega)).drew
  have hxr : xb ≠ rb := by have := HR4.out; omega
  have R3 : Hid (Rd rb s at_ (w2.setCell ⟨xb, 0, none⟩ (.int .u8 c.toNat)).drew) := (HR.out.below B2.out).setX hxr _ _
  have X3 : Hid (Xs xb c.toNat 0 ⟨#[]⟩ (.slice none 0 0) 1 (w2.setCell ⟨xb, 0, none⟩ (.int .u8 c.toNat)).drew) := heap_setCell_same w2 xb 0 _ 102 _ X2.out
  have Q3 : Hid ((w2.setCell ⟨xb, 0, none⟩ (.int .u8 c.toNat)).drew.heap[r4]? = some (.cells #[.int .u8 0, .int .i64 0, .string ⟨#[]⟩, .slice none 0 0, .int .i64 0] 102 (0, 0))) := (Below.heap_setCell w2 ⟨xb, 0, none⟩ _ r4 (by show r4 ≠ xb; omega)).trans R2.out
  generalize (w2.setCell ⟨xb, 0, none⟩ (.int .u8 c.toNat)).drew = w3 at F3 R3 X3 Q3 ⊢
  clear hc0 hc1 hf1 x0 x1 x2 x3 x4 hxf B2 R2 X2
  have hc0 := R3.out.c0
  have hc1 := R3.out.c1
  have hf1 := R3.out.f 1
  have x0 := X3.out.c.1
  have hat : (at_ : Int) < 16384 := by omega
  go_upto_region 7 with (go_at_call 70; (with_reducible refine Calls.mono (HF.out _) ?_); rintro e w9 ⟨hw9, rfl⟩; subst hw9)
  have F4 : Hid (Fr (fun k => k = rb) w (w9.setCell ⟨rb, 1, none⟩ (.int .i64 ((at_ : Int) + 1)))) := F3.out.set' ⟨rb, 1, none⟩ _ (fun _ => rfl)
  have RR4 : Hid (Rd rb s ((at_ + 1 : Nat) : Int) (w9.setCell ⟨rb, 1, none⟩ (.int .i64 ((at_ : Int) + 1)))) := R3.out.set _
  have X4 : Hid (Xs xb c.toNat 0 ⟨#[]⟩ (.slice none 0 0) 1 (w9.setCell ⟨rb, 1, none⟩ (.int .i64 ((at_ : Int) + 1)))) := X3.out.setR hxr _ _
  have Q4 : Hid ((w9.setCell ⟨rb, 1, none⟩ (.int .i64 ((at_ : Int) + 1))).heap[r4]? = some (.cells #[.int .u8 0, .int .i64 0, .string ⟨#[]⟩, .slice none 0 0, .int .i64 0] 102 (0, 0))) := (Below.heap_setCell w9 ⟨rb, 1, none⟩ _ r4 (by show r4 ≠ rb; omega)).trans Q3.out
  generalize w9.setCell ⟨rb, 1, none⟩ (.int .i64 ((at_ : Int) + 1)) = w4 at F4 RR4 X4 Q4 ⊢
  clear hc0 hc1 hf1 x0 F3 R3 X3 Q3
  have L4 : Hid (LibOk w4) := HL.out.fr F4.out (by omega) (by omega)
  have HREST := Lib.hid (rest_any rb xb (at_ + 1) R 76 c s w4 HCO.out hs (by omega) RR4.out X4.out L4.out hxr (by omega) h6 (by omega) hT)
  rw [HRR.out] at HREST
  cases ho : restP R c rr with
  | none =>
    rw [ho] at HREST HP
    obtain rfl : po = none := HP.out
    clear ho
    go_wp2_with (first
      | (go_at_call 76; (with_reducible refine Calls.mono HREST.out ?_); rintro e w5 ⟨hf5, hno, _⟩; obtain ⟨rfl, z, m, d', u', kv', hz, _⟩ := hno rfl; have F5 := Lib.hid hf5; have Z5 := Lib.hid hz; have Q5 : Hid (w5.heap[r4]? = some (.cells #[.int .u8 0, .int .i64 0, .string ⟨#[]⟩, .slice none 0 0, .int .i64 0] 102 (0, 0))) := (hf5.block r4 (Array.getElem?_eq_some_iff.1 Q4.out).1 (by rintro (h | h) <;> omega)).trans Q4.out; clear hf5 hno hz)
      | (with_reducible refine wpList_store_row rfl 102 (.tmp 4) (.tmp 60) rfl r4 #[.int .u8 0, .int .i64 0, .string ⟨#[]⟩, .slice none 0 0, .int .i64 0] rfl rfl 102 #[.int .u8 0, .int .i64 0, .string ⟨#[]⟩, .slice none 0 0, .int .i64 0] Q5.out (info5s _ _ _ _ _) (size5s _ _ _ _ _ _ _ _ _ _) (one5s _ _ _ _ _ _ _) ?_))
    have hl := run_loadVar_row (P := Tryd.prog) (w5.setRow r4 #[.int .u8 0, .int .i64 0, .string ⟨#[]⟩, .slice none 0 0, .int .i64 0]) r4 102 102 #[.int .u8 0, .int .i64 0, .string ⟨#[]⟩, .slice none 0 0, .int .i64 0] (0, 0) _ (setRow_heap w5 r4 _ _ 102 _ Q5.out) Tryd.underlying102 rfl (info5s _ _ _ _ _)
    refine bodyPost_ret (results_cell_tmp Tryd.results65 _ _ _ rfl hl) rfl ⟨?_, ⟨z, ?_⟩, fun _ => rfl, fun x rest h => by cases h⟩
    · exact ((F4.out.trans' F5.out (fun i hi h => h.resolve_right (fun e => by omega))).setR r4 _ (fun h => by have := HR4.out; omega)).grownBy
    · show Rd rb s z _
      exact (setRow_other _ _ rb _ (by omega)).trans Z5.out
  | some y =>
    obtain ⟨n, t, ks, d, u'⟩ := y
    have RK := Lib.hid (rest_kids ho)
    rw [ho] at HREST HP
    clear ho
    have hr4w : r4 < w4.heap.size := (Array.getElem?_eq_some_iff.1 Q4.out).1
    cases hfb : fitsB c ks with
    | false =>
      have HFB := Lib.hid hfb
      obtain rfl : po = none := by have := HP.out; simpa [hfb] using this
      clear hfb
      go_wp2_with (first
        | (go_at_call 76; (with_reducible refine Calls.mono HREST.out ?_); rintro e w5 ⟨hf5, _, hyes⟩; obtain ⟨rfl, a5, u5, kv, ha5, hd5, hu5, hz, hx5, hk5⟩ := hyes n t ks d u' rfl; obtain ⟨ko, km, kc, rfl⟩ := kids_slice hk5; have F5 := Lib.hid hf5; have Z5 := Lib.hid hz; have X5 := Lib.hid hx5; have K5 := Lib.hid hk5; have D5 := Lib.hid hd5; have U5 := Lib.hid hu5; have A5 := Lib.hid ha5; have Q5 : Hid (w5.heap[r4]? = some (.cells #[.int .u8 0, .int .i64 0, .string ⟨#[]⟩, .slice none 0 0, .int .i64 0] 102 (0, 0))) := (hf5.block r4 (Array.getElem?_eq_some_iff.1 Q4.out).1 (by rintro (h | h) <;> omega)).trans Q4.out; obtain ⟨x0, x1, x2, x3, x4⟩ := hx5.c; have HFITS := Lib.hid (fits_any w4.heap.size c n d u5 ko km kc ks w5 hk5 RK.out.1 RK.out.2); (rw [HFB.out] at HFITS); clear hf5 hyes hz hx5 hk5 hd5 hu5 ha5)
        | (go_at_call 71; (with_reducible refine Calls.mono HFITS.out ?_); rintro e w6 ⟨hb6, rfl⟩; have B6 := Lib.hid hb6; have X6 := Lib.hid (X5.out.fr (S := fun _ => False) (Fr.below hb6) id); have Q6 : Hid (w6.heap[r4]? = some (.cells #[.int .u8 0, .int .i64 0, .string ⟨#[]⟩, .slice none 0 0, .int .i64 0] 102 (0, 0))) := (hb6.block r4 (Array.getElem?_eq_some_iff.1 Q5.out).1).trans Q5.out; obtain ⟨y0, y1, y2, y3, y4⟩ := X6.out.c; clear hb6)
        | (with_reducible refine wpList_store_row rfl 102 (.tmp 4) (.tmp 60) rfl r4 #[.int .u8 0, .int .i64 0, .string ⟨#[]⟩, .slice none 0 0, .int .i64 0] rfl rfl 102 #[.int .u8 0, .int .i64 0, .string ⟨#[]⟩, .slice none 0 0, .int .i64 0] Q6.out (info5s _ _ _ _ _) (size5s _ _ _ _ _ _ _ _ _ _) (one5s _ _ _ _ _ _ _) ?_))
      have hl := run_loadVar_row (P := Tryd.prog) (w6.setRow r4 #[.int .u8 0, .int .i64 0, .string ⟨#[]⟩, .slice none 0 0, .int .i64 0]) r4 102 102 #[.int .u8 0, .int .i64 0, .string ⟨#[]⟩, .slice none 0 0, .int .i64 0] (0, 0) _ (setRow_heap w6 r4 _ _ 102 _ Q6.out) Tryd.underlying102 rfl (info5s _ _ _ _ _)
      refine bodyPost_ret (results_cell_tmp Tryd.results65 _ _ _ rfl hl) rfl ⟨?_, ⟨(a5 : Int), ?_⟩, fun _ => rfl, fun x rest h => by cases h⟩
      · exact (((F4.out.trans' F5.out (fun i hi h => h.resolve_right (fun e => by omega))).trans (Fr.below B6.out)).setR r4 _ (fun h => by have := HR4.out; omega)).grownBy
      · show Rd rb s a5 _
        exact (setRow_other _ _ rb _ (by omega)).trans (Z5.out.below B6.out)
    | true =>
      have HFB := Lib.hid hfb
      obtain rfl : po = some (⟨c, n, t, ks, d⟩, u') := by have := HP.out; simpa [hfb] using this
      clear hfb
      go_wp2_with (first
        | (go_at_call 76; (with_reducible refine Calls.mono HREST.out ?_); rintro e w5 ⟨hf5, _, hyes⟩; obtain ⟨rfl, a5, u5, kv, ha5, hd5, hu5, hz, hx5, hk5⟩ := hyes n t ks d u' rfl; obtain ⟨ko, km, kc, rfl⟩ := kids_slice hk5; have F5 := Lib.hid hf5; have Z5 := Lib.hid hz; have X5 := Lib.hid hx5; have K5 := Lib.hid hk5; have D5 := Lib.hid hd5; have U5 := Lib.hid hu5; have A5 := Lib.hid ha5; have Q5 : Hid (w5.heap[r4]? = some (.cells #[.int .u8 0, .int .i64 0, .string ⟨#[]⟩, .slice none 0 0, .int .i64 0] 102 (0, 0))) := (hf5.block r4 (Array.getElem?_eq_some_iff.1 Q4.out).1 (by rintro (h | h) <;> omega)).trans Q4.out; obtain ⟨x0, x1, x2, x3, x4⟩ := hx5.c; have HFITS := Lib.hid (fits_any w4.heap.size c n d u5 ko km kc ks w5 hk5 RK.out.1 RK.out.2); (rw [HFB.out] at HFITS); clear hf5 hyes hz hx5 hk5 hd5 hu5 ha5)
        | (go_at_call 71; (with_reducible refine Calls.mono HFITS.out ?_); rintro e w6 ⟨hb6, rfl⟩; have B6 := Lib.hid hb6; have X6 := Lib.hid (X5.out.fr (S := fun _ => False) (Fr.below hb6) id); have Q6 : Hid (w6.heap[r4]? = some (.cells #[.int .u8 0, .int .i64 0, .string ⟨#[]⟩, .slice none 0 0, .int .i64 0] 102 (0, 0))) := (hb6.block r4 (Array.getElem?_eq_some_iff.1 Q5.out).1).trans Q5.out; obtain ⟨y0, y1, y2, y3, y4⟩ := X6.out.c; clear hb6)
        | (with_reducible refine wpList_store_row rfl 102 (.tmp 4) (.tmp 61) rfl r4 #[.int .u8 c.toNat, .int .i64 n, .string u5, .slice ko km kc, .int .i64 d] rfl rfl 102 #[.int .u8 0, .int .i64 0, .string ⟨#[]⟩, .slice none 0 0, .int .i64 0] Q6.out (info5s _ _ _ _ _) (size5s _ _ _ _ _ _ _ _ _ _) (one5s _ _ _ _ _ _ _) ?_))
      have hl := run_loadVar_row (P := Tryd.prog) (w6.setRow r4 #[.int .u8 c.toNat, .int .i64 n, .string u5, .slice ko km kc, .int .i64 d]) r4 102 102 #[.int .u8 c.toNat, .int .i64 n, .string u5, .slice ko km kc, .int .i64 d] (0, 0) _ (setRow_heap w6 r4 _ _ 102 _ Q6.out) Tryd.underlying102 rfl (info5s _ _ _ _ _)
      have hR6 : Rd rb s a5 (w6.setRow r4 #[.int .u8 c.toNat, .int .i64 n, .string u5, .slice ko km kc, .int .i64 d]) := (setRow_other _ _ rb _ (by omega)).trans (Z5.out.below B6.out)
      refine bodyPost_ret (results_cell_tmp Tryd.results65 _ _ _ rfl hl) rfl ⟨?_, ⟨_, hR6⟩, fun h => (by cases h), fun x rest h => ?_⟩
      · exact (((F4.out.trans' F5.out (fun i hi h => h.resolve_right (fun e => by omega))).trans (Fr.below B6.out)).setR r4 _ (fun h => by have := HR4.out; omega)).grownBy
      · cases h
        refine ⟨a5, u5, ko, km, kc, rfl, U5.out, A5.out, hR6, D5.out, ?_⟩
        refine kids_base (kids_fr (S := fun k => k = r4) K5.out ((Fr.below B6.out).setR r4 _ (fun _ => rfl)) (fun g hg e => ?_)) F4.out.size
        have := (kids_lt K5.out g hg).1
        omega
set_option maxRecDepth 100000 in
set_option maxHeartbeats 2000000 in
theorem term_66 (rb at_ R : Nat) (s : ByteArray) (w : World) (hR : Rd rb s at_ w) (ha : at_ < s.size) (hs : s.size ≤ 16384) (hRR : R ≤ 63) (hL : LibOk w) (h6 : 3 ≤ rb) (hT : TermAt rb R s) (c : UInt8) (hc : s[at_] = c) (hf : formOf c = some 77) :
    Calls Tryd.prog 65 #[.pointer (some ⟨rb, 0, none⟩), .int .i64 ((R : Int) + 1)] w (TermPost rb s (parse (R + 1) (s.data.toList.drop at_)) w) := by
  have hdrop : s.data.toList.drop at_ = c :: s.data.toList.drop (at_ + 1) := by
    rw [List.drop_eq_getElem_cons (by rw [Array.length_toList]; exact ha), ← hc]; rfl
  have HP := Lib.hid (parse_rest R c (s.data.toList.drop (at_ + 1)))
  rw [hdrop]
  obtain ⟨rr, hrr⟩ : ∃ rr, s.data.toList.drop (at_ + 1) = rr := ⟨_, rfl⟩
  have HRR := Lib.hid hrr
  rw [hrr] at HP ⊢
  obtain ⟨po, hpo⟩ : ∃ po, parse (R + 1) (c :: rr) = po := ⟨_, rfl⟩
  rw [hpo] at HP ⊢
  clear hdrop hrr hpo
  have hlt := hR.lt
  have HR := Lib.hid hR
  have HL := Lib.hid hL
  have q : ((at_ : Int) == (s.size : Int)) = false := beq_eq_false_iff_ne.mpr (by omega)
  have q2 : ((R : Int) + 1 == 0) = false := beq_eq_false_iff_ne.mpr (by omega)
  have I49 := Lib.hid info49
  have HF : Hid (∀ W, Calls Tryd.prog 70 #[.pointer (some ⟨rb, 0, none⟩), .int .u8 c.toNat] W (fun e w' => w' = W ∧ e = .returned (.func (.func 77) #[.pointer (some ⟨rb, 0, none⟩)] #[]))) := fun W => by
    have := form_any rb W c
    rw [hf] at this
    exact this
  have HCO := Lib.hid hf
  have hnil : ∀ W : World, (binOp BinOp.eql 123 (.func (.func 77) #[.pointer (some ⟨rb, 0, none⟩)] #[]) .nilFunc).run Tryd.prog W = .ok (.bool false) W := fun _ => by kernel_rfl
  clear hR hL hf
  go_enter Tryd.func65, Tryd.ntmps65
  go_upto_region 1 with fail
  have R4 := Lib.hid (heap_alloc_at w (.cells #[.int .u8 0, .int .i64 0, .string ⟨#[]⟩, .slice none 0 0, .int .i64 0] 102))
  have B0 := Lib.hid (below_new' w (.cells #[.int .u8 0, .int .i64 0, .string ⟨#[]⟩, .slice none 0 0, .int .i64 0] 102))
  have hz0 : w.heap.size < (w.alloc (.cells #[.int .u8 0, .int .i64 0, .string ⟨#[]⟩, .slice none 0 0, .int .i64 0] 102)).heap.size := by simp
  generalize w.alloc (.cells #[.int .u8 0, .int .i64 0, .string ⟨#[]⟩, .slice none 0 0, .int .i64 0] 102) = w0 at R4 B0 hz0 ⊢
  obtain ⟨r4, hr4⟩ : ∃ r4, w.heap.size = r4 := ⟨_, rfl⟩
  have HR4 := Lib.hid hr4
  rw [hr4] at R4 hlt hz0 ⊢
  clear hr4
  have hR0 := HR.out.below B0.out
  have hc0 := hR0.c0
  have hc1 := hR0.c1
  have hf1 := hR0.f 1
  clear hR0
  go_quiet (fail)
  have B1 := Lib.hid (B0.out.trans ((drewN_same w0 nq).1.mono B0.out.size))
  have R1 : Hid ((w0.drewN nq).heap[r4]? = some (.cells #[.int .u8 0, .int .i64 0, .string ⟨#[]⟩, .slice none 0 0, .int .i64 0] 102 (0, 0))) := R4.out
  have hz1 : r4 < (w0.drewN nq).heap.size := by rw [drewN_size]; exact hz0
  generalize w0.drewN nq = w1 at B1 R1 hz1 ⊢
  clear hc0 hc1 hf1 hz0 R4 B0
  go_upto_region 4 with fail
  have B2 : Hid (Below w.heap.size w (w1.alloc (.cells #[.int .u8 0, .int .i64 0, .string ⟨#[]⟩, .slice none 0 0, .int .i64 1] 102))) := B1.out.alloc B1.out.size _
  have R2 : Hid ((w1.alloc (.cells #[.int .u8 0, .int .i64 0, .string ⟨#[]⟩, .slice none 0 0, .int .i64 1] 102)).heap[r4]? = some (.cells #[.int .u8 0, .int .i64 0, .string ⟨#[]⟩, .slice none 0 0, .int .i64 0] 102 (0, 0))) := (Below.heap_alloc w1 _ r4 hz1).trans R1.out
  have X2 : Hid (Xs w1.heap.size 0 0 ⟨#[]⟩ (.slice none 0 0) 1 (w1.alloc (.cells #[.int .u8 0, .int .i64 0, .string ⟨#[]⟩, .slice none 0 0, .int .i64 1] 102))) := heap_alloc_at w1 _
  generalize w1.alloc (.cells #[.int .u8 0, .int .i64 0, .string ⟨#[]⟩, .slice none 0 0, .int .i64 1] 102) = w2 at B2 R2 X2 ⊢
  obtain ⟨xb, hxb⟩ : ∃ xb, w1.heap.size = xb := ⟨_, rfl⟩
  rw [hxb] at hz1 X2 ⊢
  clear hxb B1 R1
  have hR2 := HR.out.below B2.out
  have hc0 := hR2.c0
  have hc1 := hR2.c1
  have hf1 := hR2.f 1
  obtain ⟨x0, x1, x2, x3, x4⟩ := X2.out.c
  have hxf := fun o => X2.out.f o
  clear hR2
  go_region
  have hxw : w.heap.size ≤ xb := by have := HR4.out; omega
  have F3 : Hid (Fr (fun k => k = rb) w (w2.setCell ⟨xb, 0, none⟩ (.int .u8 c.toNat)).drew) := ((Fr.below B2.out).set' ⟨xb, 0, none⟩ _ (fun h => by have : xb < w.heap.size := h; omega)).drew
  have hxr : xb ≠ rb := by have := HR4.out; omega
  have R3 : Hid (Rd rb s at_ (w2.setCell ⟨xb, 0, none⟩ (.int .u8 c.toNat)).drew) := (HR.out.below B2.out).setX hxr _ _
  have X3 : Hid (Xs xb c.toNat 0 ⟨#[]⟩ (.slice none 0 0) 1 (w2.setCell ⟨xb, 0, none⟩ (.int .u8 c.toNat)).drew) := heap_setCell_same w2 xb 0 _ 102 _ X2.out
  have Q3 : Hid ((w2.setCell ⟨xb, 0, none⟩ (.int .u8 c.toNat)).drew.heap[r4]? = some (.cells #[.int .u8 0, .int .i64 0, .string ⟨#[]⟩, .slice none 0 0, .int .i64 0] 102 (0, 0))) := (Below.heap_setCell w2 ⟨xb, 0, none⟩ _ r4 (by show r4 ≠ xb; omega)).trans R2.out
  generalize (w2.setCell ⟨xb, 0, none⟩ (.int .u8 c.toNat)).drew = w3 at F3 R3 X3 Q3 ⊢
  clear hc0 hc1 hf1 x0 x1 x2 x3 x4 hxf B2 R2 X2
  have hc0 := R3.out.c0
  have hc1 := R3.out.c1
  have hf1 := R3.out.f 1
  have x0 := X3.out.c.1
  have hat : (at_ : Int) < 16384 := by omega
  go_upto_region 7 with (go_at_call 70; (with_reducible refine Calls.mono (HF.out _) ?_); rintro e w9 ⟨hw9, rfl⟩; subst hw9)
  have F4 : Hid (Fr (fun k => k = rb) w (w9.setCell ⟨rb, 1, none⟩ (.int .i64 ((at_ : Int) + 1)))) := F3.out.set' ⟨rb, 1, none⟩ _ (fun _ => rfl)
  have RR4 : Hid (Rd rb s ((at_ + 1 : Nat) : Int) (w9.setCell ⟨rb, 1, none⟩ (.int .i64 ((at_ : Int) + 1)))) := R3.out.set _
  have X4 : Hid (Xs xb c.toNat 0 ⟨#[]⟩ (.slice none 0 0) 1 (w9.setCell ⟨rb, 1, none⟩ (.int .i64 ((at_ : Int) + 1)))) := X3.out.setR hxr _ _
  have Q4 : Hid ((w9.setCell ⟨rb, 1, none⟩ (.int .i64 ((at_ : Int) + 1))).heap[r4]? = some (.cells #[.int .u8 0, .int .i64 0, .string ⟨#[]⟩, .slice none 0 0, .int .i64 0] 102 (0, 0))) := (Below.heap_setCell w9 ⟨rb, 1, none⟩ _ r4 (by show r4 ≠ rb; omega)).trans Q3.out
  generalize w9.setCell ⟨rb, 1, none⟩ (.int .i64 ((at_ : Int) + 1)) = w4 at F4 RR4 X4 Q4 ⊢
  clear hc0 hc1 hf1 x0 F3 R3 X3 Q3
  have L4 : Hid (LibOk w4) := HL.out.fr F4.out (by omega) (by omega)
  have HREST := Lib.hid (rest_any rb xb (at_ + 1) R 77 c s w4 HCO.out hs (by omega) RR4.out X4.out L4.out hxr (by omega) h6 (by omega) hT)
  rw [HRR.out] at HREST
  cases ho : restP R c rr with
  | none =>
    rw [ho] at HREST HP
    obtain rfl : po = none := HP.out
    clear ho
    go_wp2_with (first
      | (go_at_call 77; (with_reducible refine Calls.mono HREST.out ?_); rintro e w5 ⟨hf5, hno, _⟩; obtain ⟨rfl, z, m, d', u', kv', hz, _⟩ := hno rfl; have F5 := Lib.hid hf5; have Z5 := Lib.hid hz; have Q5 : Hid (w5.heap[r4]? = some (.cells #[.int .u8 0, .int .i64 0, .string ⟨#[]⟩, .slice none 0 0, .int .i64 0] 102 (0, 0))) := (hf5.block r4 (Array.getElem?_eq_some_iff.1 Q4.out).1 (by rintro (h | h) <;> omega)).trans Q4.out; clear hf5 hno hz)
      | (with_reducible refine wpList_store_row rfl 102 (.tmp 4) (.tmp 60) rfl r4 #[.int .u8 0, .int .i64 0, .string ⟨#[]⟩, .slice none 0 0, .int .i64 0] rfl rfl 102 #[.int .u8 0, .int .i64 0, .string ⟨#[]⟩, .slice none 0 0, .int .i64 0] Q5.out (info5s _ _ _ _ _) (size5s _ _ _ _ _ _ _ _ _ _) (one5s _ _ _ _ _ _ _) ?_))
    have hl := run_loadVar_row (P := Tryd.prog) (w5.setRow r4 #[.int .u8 0, .int .i64 0, .string ⟨#[]⟩, .slice none 0 0, .int .i64 0]) r4 102 102 #[.int .u8 0, .int .i64 0, .string ⟨#[]⟩, .slice none 0 0, .int .i64 0] (0, 0) _ (setRow_heap w5 r4 _ _ 102 _ Q5.out) Tryd.underlying102 rfl (info5s _ _ _ _ _)
    refine bodyPost_ret (results_cell_tmp Tryd.results65 _ _ _ rfl hl) rfl ⟨?_, ⟨z, ?_⟩, fun _ => rfl, fun x rest h => by cases h⟩
    · exact ((F4.out.trans' F5.out (fun i hi h => h.resolve_right (fun e => by omega))).setR r4 _ (fun h => by have := HR4.out; omega)).grownBy
    · show Rd rb s z _
      exact (setRow_other _ _ rb _ (by omega)).trans Z5.out
  | some y =>
    obtain ⟨n, t, ks, d, u'⟩ := y
    have RK := Lib.hid (rest_kids ho)
    rw [ho] at HREST HP
    clear ho
    have hr4w : r4 < w4.heap.size := (Array.getElem?_eq_some_iff.1 Q4.out).1
    cases hfb : fitsB c ks with
    | false =>
      have HFB := Lib.hid hfb
      obtain rfl : po = none := by have := HP.out; simpa [hfb] using this
      clear hfb
      go_wp2_with (first
        | (go_at_call 77; (with_reducible refine Calls.mono HREST.out ?_); rintro e w5 ⟨hf5, _, hyes⟩; obtain ⟨rfl, a5, u5, kv, ha5, hd5, hu5, hz, hx5, hk5⟩ := hyes n t ks d u' rfl; obtain ⟨ko, km, kc, rfl⟩ := kids_slice hk5; have F5 := Lib.hid hf5; have Z5 := Lib.hid hz; have X5 := Lib.hid hx5; have K5 := Lib.hid hk5; have D5 := Lib.hid hd5; have U5 := Lib.hid hu5; have A5 := Lib.hid ha5; have Q5 : Hid (w5.heap[r4]? = some (.cells #[.int .u8 0, .int .i64 0, .string ⟨#[]⟩, .slice none 0 0, .int .i64 0] 102 (0, 0))) := (hf5.block r4 (Array.getElem?_eq_some_iff.1 Q4.out).1 (by rintro (h | h) <;> omega)).trans Q4.out; obtain ⟨x0, x1, x2, x3, x4⟩ := hx5.c; have HFITS := Lib.hid (fits_any w4.heap.size c n d u5 ko km kc ks w5 hk5 RK.out.1 RK.out.2); (rw [HFB.out] at HFITS); clear hf5 hyes hz hx5 hk5 hd5 hu5 ha5)
        | (go_at_call 71; (with_reducible refine Calls.mono HFITS.out ?_); rintro e w6 ⟨hb6, rfl⟩; have B6 := Lib.hid hb6; have X6 := Lib.hid (X5.out.fr (S := fun _ => False) (Fr.below hb6) id); have Q6 : Hid (w6.heap[r4]? = some (.cells #[.int .u8 0, .int .i64 0, .string ⟨#[]⟩, .slice none 0 0, .int .i64 0] 102 (0, 0))) := (hb6.block r4 (Array.getElem?_eq_some_iff.1 Q5.out).1).trans Q5.out; obtain ⟨y0, y1, y2, y3, y4⟩ := X6.out.c; clear hb6)
        | (with_reducible refine wpList_store_row rfl 102 (.tmp 4) (.tmp 60) rfl r4 #[.int .u8 0, .int .i64 0, .string ⟨#[]⟩, .slice none 0 0, .int .i64 0] rfl rfl 102 #[.int .u8 0, .int .i64 0, .string ⟨#[]⟩, .slice none 0 0, .int .i64 0] Q6.out (info5s _ _ _ _ _) (size5s _ _ _ _ _ _ _ _ _ _) (one5s _ _ _ _ _ _ _) ?_))
      have hl := run_loadVar_row (P := Tryd.prog) (w6.setRow r4 #[.int .u8 0, .int .i64 0, .string ⟨#[]⟩, .slice none 0 0, .int .i64 0]) r4 102 102 #[.int .u8 0, .int .i64 0, .string ⟨#[]⟩, .slice none 0 0, .int .i64 0] (0, 0) _ (setRow_heap w6 r4 _ _ 102 _ Q6.out) Tryd.underlying102 rfl (info5s _ _ _ _ _)
      refine bodyPost_ret (results_cell_tmp Tryd.results65 _ _ _ rfl hl) rfl ⟨?_, ⟨(a5 : Int), ?_⟩, fun _ => rfl, fun x rest h => by cases h⟩
      · exact (((F4.out.trans' F5.out (fun i hi h => h.resolve_right (fun e => by omega))).trans (Fr.below B6.out)).setR r4 _ (fun h => by have := HR4.out; omega)).grownBy
      · show Rd rb s a5 _
        exact (setRow_other _ _ rb _ (by omega)).trans (Z5.out.below B6.out)
    | true =>
      have HFB := Lib.hid hfb
      obtain rfl : po = some (⟨c, n, t, ks, d⟩, u') := by have := HP.out; simpa [hfb] using this
      clear hfb
      go_wp2_with (first
        | (go_at_call 77; (with_reducible refine Calls.mono HREST.out ?_); rintro e w5 ⟨hf5, _, hyes⟩; obtain ⟨rfl, a5, u5, kv, ha5, hd5, hu5, hz, hx5, hk5⟩ := hyes n t ks d u' rfl; obtain ⟨ko, km, kc, rfl⟩ := kids_slice hk5; have F5 := Lib.hid hf5; have Z5 := Lib.hid hz; have X5 := Lib.hid hx5; have K5 := Lib.hid hk5; have D5 := Lib.hid hd5; have U5 := Lib.hid hu5; have A5 := Lib.hid ha5; have Q5 : Hid (w5.heap[r4]? = some (.cells #[.int .u8 0, .int .i64 0, .string ⟨#[]⟩, .slice none 0 0, .int .i64 0] 102 (0, 0))) := (hf5.block r4 (Array.getElem?_eq_some_iff.1 Q4.out).1 (by rintro (h | h) <;> omega)).trans Q4.out; obtain ⟨x0, x1, x2, x3, x4⟩ := hx5.c; have HFITS := Lib.hid (fits_any w4.heap.size c n d u5 ko km kc ks w5 hk5 RK.out.1 RK.out.2); (rw [HFB.out] at HFITS); clear hf5 hyes hz hx5 hk5 hd5 hu5 ha5)
        | (go_at_call 71; (with_reducible refine Calls.mono HFITS.out ?_); rintro e w6 ⟨hb6, rfl⟩; have B6 := Lib.hid hb6; have X6 := Lib.hid (X5.out.fr (S := fun _ => False) (Fr.below hb6) id); have Q6 : Hid (w6.heap[r4]? = some (.cells #[.int .u8 0, .int .i64 0, .string ⟨#[]⟩, .slice none 0 0, .int .i64 0] 102 (0, 0))) := (hb6.block r4 (Array.getElem?_eq_some_iff.1 Q5.out).1).trans Q5.out; obtain ⟨y0, y1, y2, y3, y4⟩ := X6.out.c; clear hb6)
        | (with_reducible refine wpList_store_row rfl 102 (.tmp 4) (.tmp 61) rfl r4 #[.int .u8 c.toNat, .int .i64 n, .string u5, .slice ko km kc, .int .i64 d] rfl rfl 102 #[.int .u8 0, .int .i64 0, .string ⟨#[]⟩, .slice none 0 0, .int .i64 0] Q6.out (info5s _ _ _ _ _) (size5s _ _ _ _ _ _ _ _ _ _) (one5s _ _ _ _ _ _ _) ?_))
      have hl := run_loadVar_row (P := Tryd.prog) (w6.setRow r4 #[.int .u8 c.toNat, .int .i64 n, .string u5, .slice ko km kc, .int .i64 d]) r4 102 102 #[.int .u8 c.toNat, .int .i64 n, .string u5, .slice ko km kc, .int .i64 d] (0, 0) _ (setRow_heap w6 r4 _ _ 102 _ Q6.out) Tryd.underlying102 rfl (info5s _ _ _ _ _)
      have hR6 : Rd rb s a5 (w6.setRow r4 #[.int .u8 c.toNat, .int .i64 n, .string u5, .slice ko km kc, .int .i64 d]) := (setRow_other _ _ rb _ (by omega)).trans (Z5.out.below B6.out)
      refine bodyPost_ret (results_cell_tmp Tryd.results65 _ _ _ rfl hl) rfl ⟨?_, ⟨_, hR6⟩, fun h => (by cases h), fun x rest h => ?_⟩
      · exact (((F4.out.trans' F5.out (fun i hi h => h.resolve_right (fun e => by omega))).trans (Fr.below B6.out)).setR r4 _ (fun h => by have := HR4.out; omega)).grownBy
      · cases h
        refine ⟨a5, u5, ko, km, kc, rfl, U5.out, A5.out, hR6, D5.out, ?_⟩
        refine kids_base (kids_fr (S := fun k => k = r4) K5.out ((Fr.below B6.out).setR r4 _ (fun _ => rfl)) (fun g hg e => ?_)) F4.out.size
        have := (kids_lt K5.out g hg).1
        omega
set_option maxRecDepth 100000 in
set_option maxHeartbeats 2000000 in
theorem term_none (rb at_ R : Nat) (s : ByteArray) (w : World) (hR : Rd rb s at_ w) (ha : at_ < s.size) (hs : s.size ≤ 16384) (hRR : R ≤ 63) (hL : LibOk w) (h6 : 3 ≤ rb) (c : UInt8) (hc : s[at_] = c) (hf : formOf c = none) :
    Calls Tryd.prog 65 #[.pointer (some ⟨rb, 0, none⟩), .int .i64 ((R : Int) + 1)] w (TermPost rb s (parse (R + 1) (s.data.toList.drop at_)) w) := by
  have hdrop : s.data.toList.drop at_ = c :: s.data.toList.drop (at_ + 1) := by
    rw [List.drop_eq_getElem_cons (by rw [Array.length_toList]; exact ha), ← hc]; rfl
  have HP := Lib.hid (parse_rest R c (s.data.toList.drop (at_ + 1)))
  rw [hdrop]
  obtain ⟨rr, hrr⟩ : ∃ rr, s.data.toList.drop (at_ + 1) = rr := ⟨_, rfl⟩
  have HRR := Lib.hid hrr
  rw [hrr] at HP ⊢
  obtain ⟨po, hpo⟩ : ∃ po, parse (R + 1) (c :: rr) = po := ⟨_, rfl⟩
  rw [hpo] at HP ⊢
  clear hdrop hrr hpo
  have hlt := hR.lt
  have HR := Lib.hid hR
  have HL := Lib.hid hL
  have q : ((at_ : Int) == (s.size : Int)) = false := beq_eq_false_iff_ne.mpr (by omega)
  have q2 : ((R : Int) + 1 == 0) = false := beq_eq_false_iff_ne.mpr (by omega)
  have I49 := Lib.hid info49
  have HF : Hid (∀ W, Calls Tryd.prog 70 #[.pointer (some ⟨rb, 0, none⟩), .int .u8 c.toNat] W (fun e w' => w' = W ∧ e = .returned .nilFunc)) := fun W => by
    have := form_any rb W c
    rw [hf] at this
    exact this
  have HCO := Lib.hid hf
  have hnil : ∀ W : World, (binOp BinOp.eql 123 .nilFunc .nilFunc).run Tryd.prog W = .ok (.bool true) W := fun _ => by kernel_rfl
  clear hR hL hf
  go_enter Tryd.func65, Tryd.ntmps65
  go_upto_region 1 with fail
  have R4 := Lib.hid (heap_alloc_at w (.cells #[.int .u8 0, .int .i64 0, .string ⟨#[]⟩, .slice none 0 0, .int .i64 0] 102))
  have B0 := Lib.hid (below_new' w (.cells #[.int .u8 0, .int .i64 0, .string ⟨#[]⟩, .slice none 0 0, .int .i64 0] 102))
  have hz0 : w.heap.size < (w.alloc (.cells #[.int .u8 0, .int .i64 0, .string ⟨#[]⟩, .slice none 0 0, .int .i64 0] 102)).heap.size := by simp
  generalize w.alloc (.cells #[.int .u8 0, .int .i64 0, .string ⟨#[]⟩, .slice none 0 0, .int .i64 0] 102) = w0 at R4 B0 hz0 ⊢
  obtain ⟨r4, hr4⟩ : ∃ r4, w.heap.size = r4 := ⟨_, rfl⟩
  have HR4 := Lib.hid hr4
  rw [hr4] at R4 hlt hz0 ⊢
  clear hr4
  have hR0 := HR.out.below B0.out
  have hc0 := hR0.c0
  have hc1 := hR0.c1
  have hf1 := hR0.f 1
  clear hR0
  go_quiet (fail)
  have B1 := Lib.hid (B0.out.trans ((drewN_same w0 nq).1.mono B0.out.size))
  have R1 : Hid ((w0.drewN nq).heap[r4]? = some (.cells #[.int .u8 0, .int .i64 0, .string ⟨#[]⟩, .slice none 0 0, .int .i64 0] 102 (0, 0))) := R4.out
  have hz1 : r4 < (w0.drewN nq).heap.size := by rw [drewN_size]; exact hz0
  generalize w0.drewN nq = w1 at B1 R1 hz1 ⊢
  clear hc0 hc1 hf1 hz0 R4 B0
  go_upto_region 4 with fail
  have B2 : Hid (Below w.heap.size w (w1.alloc (.cells #[.int .u8 0, .int .i64 0, .string ⟨#[]⟩, .slice none 0 0, .int .i64 1] 102))) := B1.out.alloc B1.out.size _
  have R2 : Hid ((w1.alloc (.cells #[.int .u8 0, .int .i64 0, .string ⟨#[]⟩, .slice none 0 0, .int .i64 1] 102)).heap[r4]? = some (.cells #[.int .u8 0, .int .i64 0, .string ⟨#[]⟩, .slice none 0 0, .int .i64 0] 102 (0, 0))) := (Below.heap_alloc w1 _ r4 hz1).trans R1.out
  have X2 : Hid (Xs w1.heap.size 0 0 ⟨#[]⟩ (.slice none 0 0) 1 (w1.alloc (.cells #[.int .u8 0, .int .i64 0, .string ⟨#[]⟩, .slice none 0 0, .int .i64 1] 102))) := heap_alloc_at w1 _
  generalize w1.alloc (.cells #[.int .u8 0, .int .i64 0, .string ⟨#[]⟩, .slice none 0 0, .int .i64 1] 102) = w2 at B2 R2 X2 ⊢
  obtain ⟨xb, hxb⟩ : ∃ xb, w1.heap.size = xb := ⟨_, rfl⟩
  rw [hxb] at hz1 X2 ⊢
  clear hxb B1 R1
  have hR2 := HR.out.below B2.out
  have hc0 := hR2.c0
  have hc1 := hR2.c1
  have hf1 := hR2.f 1
  obtain ⟨x0, x1, x2, x3, x4⟩ := X2.out.c
  have hxf := fun o => X2.out.f o
  clear hR2
  go_region
  have hxw : w.heap.size ≤ xb := by have := HR4.out; omega
  have F3 : Hid (Fr (fun k => k = rb) w (w2.setCell ⟨xb, 0, none⟩ (.int .u8 c.toNat)).drew) := ((Fr.below B2.out).set' ⟨xb, 0, none⟩ _ (fun h => by have : xb < w.heap.size := h; omega)).drew
  have hxr : xb ≠ rb := by have := HR4.out; omega
  have R3 : Hid (Rd rb s at_ (w2.setCell ⟨xb, 0, none⟩ (.int .u8 c.toNat)).drew) := (HR.out.below B2.out).setX hxr _ _
  have X3 : Hid (Xs xb c.toNat 0 ⟨#[]⟩ (.slice none 0 0) 1 (w2.setCell ⟨xb, 0, none⟩ (.int .u8 c.toNat)).drew) := heap_setCell_same w2 xb 0 _ 102 _ X2.out
  have Q3 : Hid ((w2.setCell ⟨xb, 0, none⟩ (.int .u8 c.toNat)).drew.heap[r4]? = some (.cells #[.int .u8 0, .int .i64 0, .string ⟨#[]⟩, .slice none 0 0, .int .i64 0] 102 (0, 0))) := (Below.heap_setCell w2 ⟨xb, 0, none⟩ _ r4 (by show r4 ≠ xb; omega)).trans R2.out
  generalize (w2.setCell ⟨xb, 0, none⟩ (.int .u8 c.toNat)).drew = w3 at F3 R3 X3 Q3 ⊢
  clear hc0 hc1 hf1 x0 x1 x2 x3 x4 hxf B2 R2 X2
  have hc0 := R3.out.c0
  have hc1 := R3.out.c1
  have hf1 := R3.out.f 1
  have x0 := X3.out.c.1
  have hat : (at_ : Int) < 16384 := by omega
  go_upto_region 7 with (go_at_call 70; (with_reducible refine Calls.mono (HF.out _) ?_); rintro e w9 ⟨hw9, rfl⟩; subst hw9)
  have F4 : Hid (Fr (fun k => k = rb) w (w9.setCell ⟨rb, 1, none⟩ (.int .i64 ((at_ : Int) + 1)))) := F3.out.set' ⟨rb, 1, none⟩ _ (fun _ => rfl)
  have RR4 : Hid (Rd rb s ((at_ + 1 : Nat) : Int) (w9.setCell ⟨rb, 1, none⟩ (.int .i64 ((at_ : Int) + 1)))) := R3.out.set _
  have X4 : Hid (Xs xb c.toNat 0 ⟨#[]⟩ (.slice none 0 0) 1 (w9.setCell ⟨rb, 1, none⟩ (.int .i64 ((at_ : Int) + 1)))) := X3.out.setR hxr _ _
  have Q4 : Hid ((w9.setCell ⟨rb, 1, none⟩ (.int .i64 ((at_ : Int) + 1))).heap[r4]? = some (.cells #[.int .u8 0, .int .i64 0, .string ⟨#[]⟩, .slice none 0 0, .int .i64 0] 102 (0, 0))) := (Below.heap_setCell w9 ⟨rb, 1, none⟩ _ r4 (by show r4 ≠ rb; omega)).trans Q3.out
  generalize w9.setCell ⟨rb, 1, none⟩ (.int .i64 ((at_ : Int) + 1)) = w4 at F4 RR4 X4 Q4 ⊢
  clear hc0 hc1 hf1 x0 F3 R3 X3 Q3
  have hnone := form_none HCO.out R rr
  obtain rfl : po = none := by have := HP.out; rw [hnone] at this; exact this
  clear hnone
  go_wp2_with (with_reducible refine wpList_store_row rfl 102 (.tmp 4) (.tmp 60) rfl r4 #[.int .u8 0, .int .i64 0, .string ⟨#[]⟩, .slice none 0 0, .int .i64 0] rfl rfl 102 #[.int .u8 0, .int .i64 0, .string ⟨#[]⟩, .slice none 0 0, .int .i64 0] Q4.out (info5s _ _ _ _ _) (size5s _ _ _ _ _ _ _ _ _ _) (one5s _ _ _ _ _ _ _) ?_)
  have hl := run_loadVar_row (P := Tryd.prog) (w4.setRow r4 #[.int .u8 0, .int .i64 0, .string ⟨#[]⟩, .slice none 0 0, .int .i64 0]) r4 102 102 #[.int .u8 0, .int .i64 0, .string ⟨#[]⟩, .slice none 0 0, .int .i64 0] (0, 0) _ (setRow_heap w4 r4 _ _ 102 _ Q4.out) Tryd.underlying102 rfl (info5s _ _ _ _ _)
  refine bodyPost_ret (results_cell_tmp Tryd.results65 _ _ _ rfl hl) rfl ⟨?_, ⟨((at_ + 1 : Nat) : Int), ?_⟩, fun _ => rfl, fun x rest h => by cases h⟩
  · exact (F4.out.setR r4 _ (fun h => by have := HR4.out; omega)).grownBy
  · show Rd rb s _ _
    exact (setRow_other _ _ rb _ (by omega)).trans RR4.out
set_option maxRecDepth 100000 in
set_option maxHeartbeats 2000000 in
theorem term_end (rb at_ R : Nat) (s : ByteArray) (w : World) (hR : Rd rb s at_ w) (ha : at_ = s.size) (hs : s.size ≤ 16384) (hRR : R ≤ 64) :
    Calls Tryd.prog 65 #[.pointer (some ⟨rb, 0, none⟩), .int .i64 R] w (TermPost rb s none w) := by
  have hlt := hR.lt
  have HR := Lib.hid hR
  have q : decide ((at_ : Int) = (s.size : Int)) = true := decB _ (by omega)
  clear hR
  go_enter Tryd.func65, Tryd.ntmps65
  go_upto_region 1 with fail
  have R4 := Lib.hid (heap_alloc_at w (.cells #[.int .u8 0, .int .i64 0, .string ⟨#[]⟩, .slice none 0 0, .int .i64 0] 102))
  have B0 := Lib.hid (below_new' w (.cells #[.int .u8 0, .int .i64 0, .string ⟨#[]⟩, .slice none 0 0, .int .i64 0] 102))
  generalize w.alloc (.cells #[.int .u8 0, .int .i64 0, .string ⟨#[]⟩, .slice none 0 0, .int .i64 0] 102) = w0 at R4 B0 ⊢
  obtain ⟨r4, hr4⟩ : ∃ r4, w.heap.size = r4 := ⟨_, rfl⟩
  have HR4 := Lib.hid hr4
  rw [hr4] at R4 hlt ⊢
  clear hr4
  have hR0 := HR.out.below B0.out
  have hc0 := hR0.c0
  have hc1 := hR0.c1
  clear hR0
  go_quiet (fail)
  have B1 := Lib.hid (B0.out.trans ((drewN_same w0 nq).1.mono B0.out.size))
  have R1 : Hid ((w0.drewN nq).heap[r4]? = some (.cells #[.int .u8 0, .int .i64 0, .string ⟨#[]⟩, .slice none 0 0, .int .i64 0] 102 (0, 0))) := R4.out
  generalize w0.drewN nq = w1 at B1 R1 ⊢
  clear hc0 hc1 R4 B0
  go_wp2_with (with_reducible refine wpList_store_row rfl 102 (.tmp 4) (.tmp 22) rfl r4 #[.int .u8 0, .int .i64 0, .string ⟨#[]⟩, .slice none 0 0, .int .i64 0] rfl rfl 102 #[.int .u8 0, .int .i64 0, .string ⟨#[]⟩, .slice none 0 0, .int .i64 0] R1.out (info5s _ _ _ _ _) (size5s _ _ _ _ _ _ _ _ _ _) (one5s _ _ _ _ _ _ _) ?_)
  have hl := run_loadVar_row (P := Tryd.prog) (w1.setRow r4 #[.int .u8 0, .int .i64 0, .string ⟨#[]⟩, .slice none 0 0, .int .i64 0]) r4 102 102 #[.int .u8 0, .int .i64 0, .string ⟨#[]⟩, .slice none 0 0, .int .i64 0] (0, 0) _ (setRow_heap w1 r4 _ _ 102 _ R1.out) Tryd.underlying102 rfl (info5s _ _ _ _ _)
  refine bodyPost_ret (results_cell_tmp Tryd.results65 _ _ _ rfl hl) rfl ⟨?_, ⟨(at_ : Int), ?_⟩, fun _ => rfl, fun x rest h => by cases h⟩
  · exact ((Fr.below (S := fun k => k = rb) B1.out).setR r4 _ (fun h => by have := HR4.out; omega)).grownBy
  · show Rd rb s _ _
    exact (setRow_other _ _ rb _ (by omega)).trans (HR.out.below B1.out)
set_option maxRecDepth 100000 in
set_option maxHeartbeats 2000000 in
theorem term_room (rb at_ R : Nat) (s : ByteArray) (w : World) (hR : Rd rb s at_ w) (ha : at_ < s.size) (hs : s.size ≤ 16384) (hRR : R ≤ 64) :
    Calls Tryd.prog 65 #[.pointer (some ⟨rb, 0, none⟩), .int .i64 0] w (TermPost rb s none w) := by
  have hlt := hR.lt
  have HR := Lib.hid hR
  have q : ((at_ : Int) == (s.size : Int)) = false := beq_eq_false_iff_ne.mpr (by omega)
  clear hR
  go_enter Tryd.func65, Tryd.ntmps65
  go_upto_region 1 with fail
  have R4 := Lib.hid (heap_alloc_at w (.cells #[.int .u8 0, .int .i64 0, .string ⟨#[]⟩, .slice none 0 0, .int .i64 0] 102))
  have B0 := Lib.hid (below_new' w (.cells #[.int .u8 0, .int .i64 0, .string ⟨#[]⟩, .slice none 0 0, .int .i64 0] 102))
  generalize w.alloc (.cells #[.int .u8 0, .int .i64 0, .string ⟨#[]⟩, .slice none 0 0, .int .i64 0] 102) = w0 at R4 B0 ⊢
  obtain ⟨r4, hr4⟩ : ∃ r4, w.heap.size = r4 := ⟨_, rfl⟩
  have HR4 := Lib.hid hr4
  rw [hr4] at R4 hlt ⊢
  clear hr4
  have hR0 := HR.out.below B0.out
  have hc0 := hR0.c0
  have hc1 := hR0.c1
  clear hR0
  go_quiet (fail)
  have B1 := Lib.hid (B0.out.trans ((drewN_same w0 nq).1.mono B0.out.size))
  have R1 : Hid ((w0.drewN nq).heap[r4]? = some (.cells #[.int .u8 0, .int .i64 0, .string ⟨#[]⟩, .slice none 0 0, .int .i64 0] 102 (0, 0))) := R4.out
  generalize w0.drewN nq = w1 at B1 R1 ⊢
  clear hc0 hc1 R4 B0
  go_wp2_with (with_reducible refine wpList_store_row rfl 102 (.tmp 4) (.tmp 22) rfl r4 #[.int .u8 0, .int .i64 0, .string ⟨#[]⟩, .slice none 0 0, .int .i64 0] rfl rfl 102 #[.int .u8 0, .int .i64 0, .string ⟨#[]⟩, .slice none 0 0, .int .i64 0] R1.out (info5s _ _ _ _ _) (size5s _ _ _ _ _ _ _ _ _ _) (one5s _ _ _ _ _ _ _) ?_)
  have hl := run_loadVar_row (P := Tryd.prog) (w1.setRow r4 #[.int .u8 0, .int .i64 0, .string ⟨#[]⟩, .slice none 0 0, .int .i64 0]) r4 102 102 #[.int .u8 0, .int .i64 0, .string ⟨#[]⟩, .slice none 0 0, .int .i64 0] (0, 0) _ (setRow_heap w1 r4 _ _ 102 _ R1.out) Tryd.underlying102 rfl (info5s _ _ _ _ _)
  refine bodyPost_ret (results_cell_tmp Tryd.results65 _ _ _ rfl hl) rfl ⟨?_, ⟨(at_ : Int), ?_⟩, fun _ => rfl, fun x rest h => by cases h⟩
  · exact ((Fr.below (S := fun k => k = rb) B1.out).setR r4 _ (fun h => by have := HR4.out; omega)).grownBy
  · show Rd rb s _ _
    exact (setRow_other _ _ rb _ (by omega)).trans (HR.out.below B1.out)
end Go.Proofs.YtakfhoodjcfpcaaDoor
