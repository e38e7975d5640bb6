/- term: read, Right, Open, Size, Deep. -/
import Derived.Lib.ParseIntB
import Derived.Lib.Bytealg
import Derived.Shelf.Small.Strs
import Derived.Shelf.Strconv.Itoa0
import Derived.Shelf.Strconv.ParseIntEmpty
import Derived.Shelf.LaysM
import Derived.Shelf.Strconv.Clone
import Derived.Shelf.Strconv.SyntaxError
import Derived.Shelf.LaysC
import Derived.Shelf.Strconv.ToError
import Derived.Shelf.Strconv.Lower
import Derived.Shelf.Strconv.ParseUint10
import Derived.Shelf.Strconv.ParseUint10Empty
import Derived.Shelf.Strconv.ParseUint10Any
import Derived.Shelf.Strconv.ParseInt10
import Derived.Shelf.Strconv.RangeError
import Derived.Shelf.Strconv.ToErrorRange
import Derived.Shelf.Strconv.ParseUintEmpty
import Derived.Shelf.Strconv.ParseUint10b64
import Derived.Shelf.Strconv.ParseUint10b32
import Derived.Shelf.Strconv.ParseUint10b16
import Derived.Shelf.Strconv.ParseUint10b8
import Derived.Shelf.Strconv.ParseUint10At
import Derived.Shelf.Strconv.ParseInt10At64
import Derived.Shelf.Strconv.ParseInt10At32
import Derived.Shelf.Strconv.ParseInt10At16
import Derived.Shelf.Strconv.ParseInt10At8
import Derived.Shelf.Strconv.ParseInt10All
import Derived.Shelf.Strconv.ParseIntPublic10
import Derived.Shelf.Strconv.ErrVarParseInt
import Derived.Shelf.Strings.Search1
import Derived.WalkKit
import Derived.WalkSpells
import Derived.WalkLawsBesides
import Derived.Handy
import Derived.Lib.Hide
import Derived.Deep.QuietTactic
import Derived.BigQuiet
import Derived.Deep.RegionHeld3
import Derived.Lib.Strings
import Derived.Lib.IndexBytes
import Derived.BigRegion
import Derived.Deep.RegionLaw
import Derived.Deep.AppendLies
import Derived.Deep.LoopGhost
import Derived.Deep.Onto
import Derived.Deep.WholeRow
import Derived.Deep.CutRange
import Derived.Laws.CopyOwn
import Derived.Test.YtakfhoodjcfpcaaDoorRows
import Derived.Test.YtakfhoodjcfpcaaDoorProg
import Derived.Test.YtakfhoodjcfpcaaDoorTlA
import Derived.Test.YtakfhoodjcfpcaaDoorTlF
import Derived.Test.YtakfhoodjcfpcaaDoorTlG
import Derived.Test.YtakfhoodjcfpcaaDoorTlH
import Derived.Test.YtakfhoodjcfpcaaDoorTlI
import Derived.Test.YtakfhoodjcfpcaaDoorTlU
import Derived.Test.YtakfhoodjcfpcaaDoorNumB
import Derived.Test.YtakfhoodjcfpcaaDoorTa
import Derived.Test.YtakfhoodjcfpcaaDoorTermK
import Derived.Test.YtakfhoodjcfpcaaDoorTermL
namespace Go.Proofs.YtakfhoodjcfpcaaDoor
set_option linter.unusedVariables false
open Go.RowKit
/-- what a right term is -/
def readP (l : List UInt8) : Option Sh := if l.length ≤ 16384 then (match parse 64 l with | some (x, []) => some x | _ => none) else none
def rightB (l : List UInt8) : Bool := (readP l).isSome
def ReadPost (o : Option Sh) (w : World) (e : Ending) (w' : World) : Prop :=
  Below w.heap.size w w' ∧ (o = none → e = .returned (.tuple #[.agg #[.int .u8 0, .int .i64 0, .string ⟨#[]⟩, .slice none 0 0, .int .i64 0], .bool false])) ∧
    (∀ x, o = some x → ∃ (u : ByteArray) (ko : Option Addr) (km kc : Nat), e = .returned (.tuple #[.agg #[.int .u8 x.op.toNat, .int .i64 x.n, .string u, .slice ko km kc, .int .i64 x.deep], .bool true]) ∧ u.data.toList = x.text ∧ KidsAt w.heap.size (.slice ko km kc) x.kids w')
theorem Fr.toBelow' {S : Nat → Prop} {a b : World} {B : Nat} (h : Fr S a b) (hs : ∀ k, k < a.heap.size → S k → B ≤ k) (hB : B ≤ a.heap.size) : Below B a b := ⟨h.os, h.tape, h.output, h.size, fun k hk => h.block k (by omega) (fun x => by have := hs k (by omega) x; omega)⟩
theorem lib_six {w : World} (h : LibOk w) : 3 ≤ w.heap.size := by
  obtain ⟨ev, h1, _⟩ := h 2 (by simp)
  have := World.block_lt_of_cell? w _ h1
  exact this
theorem list_size (t : ByteArray) : t.data.toList.length = t.size := by rw [Array.length_toList]; rfl
set_option maxRecDepth 100000 in
set_option maxHeartbeats 2000000 in
theorem read_long (t : ByteArray) (w : World) (hs : 16384 < t.size) (hm : t.size ≤ maxLen) : Calls Tryd.prog 59 #[.string t] w (ReadPost none w) := by
  unfold maxLen at hm
  have hi : (16384 : Int) < (t.size : Int) := by omega
  go_enter Tryd.func59, Tryd.ntmps59
  go_upto_region 1 with fail
  have R2 := Lib.hid (heap_alloc_at w (.cells #[.int .u8 0, .int .i64 0, .string ⟨#[]⟩, .slice none 0 0, .int .i64 0] 102))
  have B0 := Lib.hid (below_new' w (.cells #[.int .u8 0, .int .i64 0, .string ⟨#[]⟩, .slice none 0 0, .int .i64 0] 102))
  generalize w.alloc (.cells #[.int .u8 0, .int .i64 0, .string ⟨#[]⟩, .slice none 0 0, .int .i64 0] 102) = w0 at R2 B0 ⊢
  obtain ⟨r2, hr2⟩ : ∃ r2, w.heap.size = r2 := ⟨_, rfl⟩
  have HR2 := Lib.hid hr2
  rw [hr2] at R2 ⊢
  clear hr2
  go_wp2_with (with_reducible refine wpList_store_row rfl 102 (.tmp 2) (.tmp 10) rfl r2 #[.int .u8 0, .int .i64 0, .string ⟨#[]⟩, .slice none 0 0, .int .i64 0] rfl rfl 102 #[.int .u8 0, .int .i64 0, .string ⟨#[]⟩, .slice none 0 0, .int .i64 0] R2.out (info5s _ _ _ _ _) (size5s _ _ _ _ _ _ _ _ _ _) (one5s _ _ _ _ _ _ _) ?_)
  have hl := run_loadVar_row (P := Tryd.prog) (w0.setRow r2 #[.int .u8 0, .int .i64 0, .string ⟨#[]⟩, .slice none 0 0, .int .i64 0]) r2 102 102 #[.int .u8 0, .int .i64 0, .string ⟨#[]⟩, .slice none 0 0, .int .i64 0] (0, 0) _ (setRow_heap w0 r2 _ _ 102 _ R2.out) Tryd.underlying102 rfl (info5s _ _ _ _ _)
  refine bodyPost_ret (results_cell_tmp Tryd.results59 _ _ _ rfl hl) rfl ⟨below_setRow B0.out (by have := HR2.out; omega) _, fun _ => rfl, fun x h => by cases h⟩
set_option maxRecDepth 100000 in
set_option maxHeartbeats 2000000 in
theorem read_short (t : ByteArray) (w : World) (hs : t.size ≤ 16384) (hL : LibOk w) (o : Option Sh) (ho : readP t.data.toList = o) : Calls Tryd.prog 59 #[.string t] w (ReadPost o w) := by
  have hi : ¬ (16384 : Int) < (t.size : Int) := by omega
  have HL := Lib.hid hL
  have hw6 := lib_six hL
  have HO : Hid ((match parse 64 t.data.toList with | some (x, []) => some x | _ => none) = o) := by
    show _ = _
    rw [← ho]; unfold readP; rw [if_pos (by rw [list_size]; exact hs)]
  clear ho hL
  go_enter Tryd.func59, Tryd.ntmps59
  go_upto_region 1 with fail
  have R2 := Lib.hid (heap_alloc_at w (.cells #[.int .u8 0, .int .i64 0, .string ⟨#[]⟩, .slice none 0 0, .int .i64 0] 102))
  have B0 := Lib.hid (below_new' w (.cells #[.int .u8 0, .int .i64 0, .string ⟨#[]⟩, .slice none 0 0, .int .i64 0] 102))
  generalize w.alloc (.cells #[.int .u8 0, .int .i64 0, .string ⟨#[]⟩, .slice none 0 0, .int .i64 0] 102) = w0 at R2 B0 ⊢
  obtain ⟨r2, hr2⟩ : ∃ r2, w.heap.size = r2 := ⟨_, rfl⟩
  have HR2 := Lib.hid hr2
  rw [hr2] at R2 ⊢
  clear hr2
  have hz0 : r2 < w0.heap.size := (Array.getElem?_eq_some_iff.1 R2.out).1
  go_upto_region 4 with fail
  have B1 : Hid (Below w.heap.size w (w0.alloc (.cells #[.string t, .int .i64 0] 116))) := B0.out.alloc B0.out.size _
  have R1 : Hid ((w0.alloc (.cells #[.string t, .int .i64 0] 116)).heap[r2]? = some (.cells #[.int .u8 0, .int .i64 0, .string ⟨#[]⟩, .slice none 0 0, .int .i64 0] 102 (0, 0))) := (Below.heap_alloc w0 _ r2 hz0).trans R2.out
  have RD1 : Hid (Rd w0.heap.size t 0 (w0.alloc (.cells #[.string t, .int .i64 0] 116))) := heap_alloc_at w0 _
  generalize w0.alloc (.cells #[.string t, .int .i64 0] 116) = w1 at B1 R1 RD1 ⊢
  obtain ⟨rb, hrb⟩ : ∃ rb, w0.heap.size = rb := ⟨_, rfl⟩
  have hrb6 : 3 ≤ rb := by have := B0.out.size; omega
  have hrw : w.heap.size ≤ rb := by have := B0.out.size; omega
  rw [hrb] at RD1 hz0 ⊢
  clear hrb B0 R2
  have L1 : Hid (LibOk w1) := HL.out.below B1.out
  have HT : Hid (Calls Tryd.prog 65 #[.pointer (some ⟨rb, 0, none⟩), .int .i64 64] w1 (TermPost rb t (parse 64 t.data.toList) w1)) := by
    have := term_any rb t hrb6 hs 64 (Nat.le_refl _) 0 w1 (Nat.zero_le _) RD1.out L1.out
    exact this
  have hr1 : r2 < w1.heap.size := (Array.getElem?_eq_some_iff.1 R1.out).1
  cases hp : parse 64 t.data.toList with
  | none =>
    rw [hp] at HT HO
    obtain rfl : none = o := HO.out
    clear hp
    go_wp2_with (first
      | (go_at_call 65; (with_reducible refine Calls.mono HT.out ?_); rintro e w5 ⟨hg, _, hno, _⟩; obtain rfl := hno rfl; have B5 : Hid (Below w.heap.size w w5) := B1.out.trans ((Fr.grown (S := fun k => k = rb) hg rfl).toBelow' (fun k _ hk => by omega) B1.out.size); have Q5 : Hid (w5.heap[r2]? = some (.cells #[.int .u8 0, .int .i64 0, .string ⟨#[]⟩, .slice none 0 0, .int .i64 0] 102 (0, 0))) := (hg.block r2 hr1 (by intro h; cases h; omega)).trans R1.out; have hz5 : r2 < w5.heap.size := (Array.getElem?_eq_some_iff.1 Q5.out).1; have Q6 : Hid ((w5.alloc (.cells #[.int .u8 0, .int .i64 0, .string ⟨#[]⟩, .slice none 0 0, .int .i64 0] 102)).heap[r2]? = some (.cells #[.int .u8 0, .int .i64 0, .string ⟨#[]⟩, .slice none 0 0, .int .i64 0] 102 (0, 0))) := (Below.heap_alloc w5 _ r2 hz5).trans Q5.out; clear hg hno)
      | (with_reducible refine wpList_store_row rfl 102 (.tmp 2) (.tmp 30) rfl r2 #[.int .u8 0, .int .i64 0, .string ⟨#[]⟩, .slice none 0 0, .int .i64 0] rfl rfl 102 #[.int .u8 0, .int .i64 0, .string ⟨#[]⟩, .slice none 0 0, .int .i64 0] Q6.out (info5s _ _ _ _ _) (size5s _ _ _ _ _ _ _ _ _ _) (one5s _ _ _ _ _ _ _) ?_))
    have hl := run_loadVar_row (P := Tryd.prog) ((w5.alloc (.cells #[.int .u8 0, .int .i64 0, .string ⟨#[]⟩, .slice none 0 0, .int .i64 0] 102)).setRow r2 #[.int .u8 0, .int .i64 0, .string ⟨#[]⟩, .slice none 0 0, .int .i64 0]) r2 102 102 #[.int .u8 0, .int .i64 0, .string ⟨#[]⟩, .slice none 0 0, .int .i64 0] (0, 0) _ (setRow_heap (w5.alloc (.cells #[.int .u8 0, .int .i64 0, .string ⟨#[]⟩, .slice none 0 0, .int .i64 0] 102)) r2 _ _ 102 _ Q6.out) Tryd.underlying102 rfl (info5s _ _ _ _ _)
    refine bodyPost_ret (results_cell_tmp Tryd.results59 _ _ _ rfl hl) rfl ⟨below_setRow (B5.out.alloc B5.out.size _) (by have := HR2.out; omega) _, fun _ => rfl, fun x h => by cases h⟩
  | some y =>
    obtain ⟨x, rest⟩ := y
    rw [hp] at HT HO
    clear hp
    cases rest with
    | nil =>
      obtain rfl : some x = o := HO.out
      go_wp2_with (first
        | (go_at_call 65; (with_reducible refine Calls.mono HT.out ?_); rintro e w5 ⟨hg, _, _, hyes⟩; obtain ⟨a, u, ko, km, kc, rfl, hu, ha, hR5, hd, hK5⟩ := hyes x _ rfl; have U5 := Lib.hid hu; have K5 := Lib.hid hK5; have hat : a = t.size := (by have h1 := congrArg List.length hd; rw [List.length_drop, list_size] at h1; simp only [List.length_nil] at h1; omega); subst hat; have B5 : Hid (Below w.heap.size w w5) := B1.out.trans ((Fr.grown (S := fun k => k = rb) hg rfl).toBelow' (fun k _ hk => by omega) B1.out.size); have Q5 : Hid (w5.heap[r2]? = some (.cells #[.int .u8 0, .int .i64 0, .string ⟨#[]⟩, .slice none 0 0, .int .i64 0] 102 (0, 0))) := (hg.block r2 hr1 (by intro h; cases h; omega)).trans R1.out; have hz5 : r2 < w5.heap.size := (Array.getElem?_eq_some_iff.1 Q5.out).1; have Q6 : Hid ((w5.alloc (.cells #[.int .u8 x.op.toNat, .int .i64 x.n, .string u, .slice ko km kc, .int .i64 x.deep] 102)).heap[r2]? = some (.cells #[.int .u8 0, .int .i64 0, .string ⟨#[]⟩, .slice none 0 0, .int .i64 0] 102 (0, 0))) := (Below.heap_alloc w5 _ r2 hz5).trans Q5.out; have R6 : Rd rb t _ (w5.alloc (.cells #[.int .u8 x.op.toNat, .int .i64 x.n, .string u, .slice ko km kc, .int .i64 x.deep] 102)) := hR5.below (below_new' w5 _); have c1 := R6.c1; obtain ⟨x0, x1, x2, x3, x4⟩ := (show Xs w5.heap.size x.op.toNat x.n u (.slice ko km kc) x.deep (w5.alloc (.cells #[.int .u8 x.op.toNat, .int .i64 x.n, .string u, .slice ko km kc, .int .i64 x.deep] 102)) from heap_alloc_at w5 _).c; clear hg hyes hR5 hd hu hK5 R6)
        | (with_reducible refine wpList_store_row rfl 102 (.tmp 2) (.tmp 31) rfl r2 #[.int .u8 x.op.toNat, .int .i64 x.n, .string u, .slice ko km kc, .int .i64 x.deep] rfl rfl 102 #[.int .u8 0, .int .i64 0, .string ⟨#[]⟩, .slice none 0 0, .int .i64 0] Q6.out (info5s _ _ _ _ _) (size5s _ _ _ _ _ _ _ _ _ _) (one5s _ _ _ _ _ _ _) ?_))
      have hl := run_loadVar_row (P := Tryd.prog) ((w5.alloc (.cells #[.int .u8 x.op.toNat, .int .i64 x.n, .string u, .slice ko km kc, .int .i64 x.deep] 102)).setRow r2 #[.int .u8 x.op.toNat, .int .i64 x.n, .string u, .slice ko km kc, .int .i64 x.deep]) r2 102 102 #[.int .u8 x.op.toNat, .int .i64 x.n, .string u, .slice ko km kc, .int .i64 x.deep] (0, 0) _ (setRow_heap (w5.alloc (.cells #[.int .u8 x.op.toNat, .int .i64 x.n, .string u, .slice ko km kc, .int .i64 x.deep] 102)) r2 _ _ 102 _ Q6.out) Tryd.underlying102 rfl (info5s _ _ _ _ _)
      refine bodyPost_ret (results_cell_tmp Tryd.results59 _ _ _ rfl hl) rfl ⟨below_setRow (B5.out.alloc B5.out.size _) (by have := HR2.out; omega) _, (fun h => by cases h), fun x' h => ?_⟩
      cases h
      refine ⟨u, ko, km, kc, rfl, U5.out, kids_base (kids_fr (S := fun k => k = r2) K5.out ((Fr.below (below_new' w5 _)).setR r2 _ (fun _ => rfl)) (fun g hg e => ?_)) B1.out.size⟩
      have := (kids_lt K5.out g hg).1
      omega
    | cons c1' r1' =>
      obtain rfl : none = o := HO.out
      go_wp2_with (first
        | (go_at_call 65; (with_reducible refine Calls.mono HT.out ?_); rintro e w5 ⟨hg, _, _, hyes⟩; obtain ⟨a, u, ko, km, kc, rfl, hu, ha, hR5, hd, hK5⟩ := hyes x _ rfl; have U5 := Lib.hid hu; have K5 := Lib.hid hK5; have hne : ((a : Int) != (t.size : Int)) = true := (by rw [bne_iff_ne]; intro e; have h1 := congrArg List.length hd; rw [List.length_drop, list_size] at h1; simp only [List.length_cons] at h1; omega); have B5 : Hid (Below w.heap.size w w5) := B1.out.trans ((Fr.grown (S := fun k => k = rb) hg rfl).toBelow' (fun k _ hk => by omega) B1.out.size); have Q5 : Hid (w5.heap[r2]? = some (.cells #[.int .u8 0, .int .i64 0, .string ⟨#[]⟩, .slice none 0 0, .int .i64 0] 102 (0, 0))) := (hg.block r2 hr1 (by intro h; cases h; omega)).trans R1.out; have hz5 : r2 < w5.heap.size := (Array.getElem?_eq_some_iff.1 Q5.out).1; have Q6 : Hid ((w5.alloc (.cells #[.int .u8 x.op.toNat, .int .i64 x.n, .string u, .slice ko km kc, .int .i64 x.deep] 102)).heap[r2]? = some (.cells #[.int .u8 0, .int .i64 0, .string ⟨#[]⟩, .slice none 0 0, .int .i64 0] 102 (0, 0))) := (Below.heap_alloc w5 _ r2 hz5).trans Q5.out; have R6 : Rd rb t _ (w5.alloc (.cells #[.int .u8 x.op.toNat, .int .i64 x.n, .string u, .slice ko km kc, .int .i64 x.deep] 102)) := hR5.below (below_new' w5 _); have c1 := R6.c1; obtain ⟨x0, x1, x2, x3, x4⟩ := (show Xs w5.heap.size x.op.toNat x.n u (.slice ko km kc) x.deep (w5.alloc (.cells #[.int .u8 x.op.toNat, .int .i64 x.n, .string u, .slice ko km kc, .int .i64 x.deep] 102)) from heap_alloc_at w5 _).c; clear hg hyes hR5 hd hu hK5 R6)
        | (with_reducible refine wpList_store_row rfl 102 (.tmp 2) (.tmp 30) rfl r2 #[.int .u8 0, .int .i64 0, .string ⟨#[]⟩, .slice none 0 0, .int .i64 0] rfl rfl 102 #[.int .u8 0, .int .i64 0, .string ⟨#[]⟩, .slice none 0 0, .int .i64 0] Q6.out (info5s _ _ _ _ _) (size5s _ _ _ _ _ _ _ _ _ _) (one5s _ _ _ _ _ _ _) ?_))
      have hl := run_loadVar_row (P := Tryd.prog) ((w5.alloc (.cells #[.int .u8 x.op.toNat, .int .i64 x.n, .string u, .slice ko km kc, .int .i64 x.deep] 102)).setRow r2 #[.int .u8 0, .int .i64 0, .string ⟨#[]⟩, .slice none 0 0, .int .i64 0]) r2 102 102 #[.int .u8 0, .int .i64 0, .string ⟨#[]⟩, .slice none 0 0, .int .i64 0] (0, 0) _ (setRow_heap (w5.alloc (.cells #[.int .u8 x.op.toNat, .int .i64 x.n, .string u, .slice ko km kc, .int .i64 x.deep] 102)) r2 _ _ 102 _ Q6.out) Tryd.underlying102 rfl (info5s _ _ _ _ _)
      refine bodyPost_ret (results_cell_tmp Tryd.results59 _ _ _ rfl hl) rfl ⟨below_setRow (B5.out.alloc B5.out.size _) (by have := HR2.out; omega) _, fun _ => rfl, fun x h => by cases h⟩
theorem read_any (t : ByteArray) (w : World) (hm : t.size ≤ maxLen) (hL : LibOk w) : Calls Tryd.prog 59 #[.string t] w (ReadPost (readP t.data.toList) w) := by
  rcases Nat.lt_or_ge 16384 t.size with h | h
  · have e : readP t.data.toList = none := by unfold readP; rw [if_neg (by rw [list_size]; omega)]
    rw [e]; exact read_long t w h hm
  · exact read_short t w h hL _ rfl
set_option maxRecDepth 100000 in
set_option maxHeartbeats 2000000 in
theorem right_any (t : ByteArray) (w : World) (hm : t.size ≤ maxLen) (hL : LibOk w) : Calls Tryd.prog 45 #[.string t] w fun e w' => e = .returned (.bool (rightB t.data.toList)) ∧ Below w.heap.size w w' := by
  have HR := Lib.hid (read_any t w hm hL)
  unfold rightB
  cases ho : readP t.data.toList with
  | none =>
    rw [ho] at HR
    clear ho
    go_enter Tryd.func45, Tryd.ntmps45
    go_wp2_with (go_at_call 59; (with_reducible refine Calls.mono HR.out ?_); rintro e w1 ⟨hb, hno, _⟩; obtain rfl := hno rfl; have B1 := Lib.hid hb; clear hb hno)
    go_ret
    exact ⟨rfl, B1.out.alloc B1.out.size _⟩
  | some x =>
    rw [ho] at HR
    clear ho
    go_enter Tryd.func45, Tryd.ntmps45
    go_wp2_with (go_at_call 59; (with_reducible refine Calls.mono HR.out ?_); rintro e w1 ⟨hb, _, hyes⟩; obtain ⟨u, ko, km, kc, rfl, _, _⟩ := hyes x rfl; have B1 := Lib.hid hb; clear hb hyes)
    go_ret
    exact ⟨rfl, B1.out.alloc B1.out.size _⟩
end Go.Proofs.YtakfhoodjcfpcaaDoor
