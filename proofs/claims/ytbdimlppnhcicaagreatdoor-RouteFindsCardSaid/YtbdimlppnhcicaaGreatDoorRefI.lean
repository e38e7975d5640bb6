/- term, the document's: Open. (Printed by a program of ours.) -/
import Derived.Lib.ParseIntB
import Derived.Lib.Bytealg
import Derived.Shelf.Strings.Builder1
import Derived.Shelf.Small.Bits
import Derived.Shelf.Small.Strs
import Derived.Shelf.Small.Wraps
import Derived.Shelf.Strings.BuilderF
import Derived.Shelf.Strings.BuilderK
import Derived.Shelf.Strconv.Itoa0
import Derived.Shelf.Strconv.Itoa1
import Derived.Shelf.LaysM
import Derived.Shelf.Strconv.Itoa2
import Derived.Shelf.Strconv.Itoa3
import Derived.Shelf.Strconv.Itoa4
import Derived.Shelf.Strconv.ParseIntEmpty
import Derived.Shelf.Strconv.Clone
import Derived.Shelf.Strconv.SyntaxError
import Derived.Shelf.LaysC
import Derived.Shelf.Strconv.ToError
import Derived.Shelf.Strconv.Lower
import Derived.Shelf.Strconv.ParseUint10
import Derived.Shelf.Strconv.ParseUint10Empty
import Derived.Shelf.Strconv.ParseUint10Any
import Derived.Shelf.Strconv.ParseInt10
import Derived.Shelf.Strconv.RangeError
import Derived.Shelf.Strconv.ToErrorRange
import Derived.Shelf.Strconv.ParseUintEmpty
import Derived.Shelf.Strconv.ParseUint10b64
import Derived.Shelf.Strconv.ParseUint10b32
import Derived.Shelf.Strconv.ParseUint10b16
import Derived.Shelf.Strconv.ParseUint10b8
import Derived.Shelf.Strconv.ParseUint10At
import Derived.Shelf.Strconv.ParseInt10At64
import Derived.Shelf.Strconv.ParseInt10At32
import Derived.Shelf.Strconv.ParseInt10At16
import Derived.Shelf.Strconv.ParseInt10At8
import Derived.Shelf.Strconv.ParseInt10All
import Derived.Shelf.Strconv.ParseIntPublic10
import Derived.Shelf.Strconv.ErrVarParseInt
import Derived.Shelf.Strings.Search1
import Derived.Shelf.Bits.Mul64
import Derived.Shelf.Strings.BuilderCap
import Derived.Ground.Names2Prog
import Derived.Shelf.Slices.Clone
import Derived.Shelf.Slices.SearchI
import Derived.Ground.SlgnProg
import Derived.Shelf.SlicesE.Clone
import Derived.WalkKit
import Derived.WalkSpells
import Derived.WalkLawsBesides
import Derived.Handy
import Derived.Lib.Hide
import Derived.Deep.QuietTactic
import Derived.BigQuiet
import Derived.Deep.RegionHeld3
import Derived.Lib.Strings
import Derived.Lib.IndexBytes
import Derived.BigRegion
import Derived.Deep.RegionLaw
import Derived.Deep.AppendLies
import Derived.Deep.LoopGhost
import Derived.Deep.Onto
import Derived.Deep.WholeRow
import Derived.Deep.CutRange
import Derived.Laws.CopyOwn
import Derived.Test.YtbdimlppnhcicaaGreatDoorRows
import Derived.Test.YtbdimlppnhcicaaGreatDoorProg
import Derived.Test.YtbdimlppnhcicaaGreatDoorNum
import Derived.Test.YtbdimlppnhcicaaGreatDoorNu
import Derived.Test.YtbdimlppnhcicaaGreatDoorTa
import Derived.Test.YtbdimlppnhcicaaGreatDoorTermK
import Derived.Test.YtbdimlppnhcicaaGreatDoorTl
import Derived.Test.YtbdimlppnhcicaaGreatDoorRa
import Derived.Test.YtbdimlppnhcicaaGreatDoorRg
namespace Go.Proofs.YtbdimlppnhcicaaGreatDoor
set_option linter.unusedVariables false
open Go.RowKit
set_option maxRecDepth 100000 in
set_option maxHeartbeats 2000000 in
theorem ropen_no (t : ByteArray) (w : World) (hm : t.size ≤ maxLen) (hr : rightB t.data.toList = false) : Calls Tryz.prog 124 #[.string t] w (OpenPost none w) := by
  have HRB := Lib.hid hr
  clear hr
  go_enter Tryz.func124, Tryz.ntmps124
  go_upto_region 1 with fail
  have R2 := Lib.hid (heap_alloc_at w (.cells #[.int .u8 0, .int .i64 0, .string ⟨#[]⟩, .slice none 0 0] 192))
  have B0 := Lib.hid (below_new' w (.cells #[.int .u8 0, .int .i64 0, .string ⟨#[]⟩, .slice none 0 0] 192))
  generalize w.alloc (.cells #[.int .u8 0, .int .i64 0, .string ⟨#[]⟩, .slice none 0 0] 192) = w0 at R2 B0 ⊢
  obtain ⟨r2, hr2⟩ : ∃ r2, w.heap.size = r2 := ⟨_, rfl⟩
  have HR2 := Lib.hid hr2
  rw [hr2] at R2 ⊢
  clear hr2
  have hz0 : r2 < w0.heap.size := (Array.getElem?_eq_some_iff.1 R2.out).1
  have HRI := Lib.hid (rright_any t w0 hm)
  rw [HRB.out] at HRI
  go_wp2_with (first
    | (go_at_call 70; (with_reducible refine Calls.mono HRI.out ?_); rintro e w1 ⟨rfl, hb⟩; have B1 : Hid (Below w.heap.size w w1) := B0.out.trans (hb.mono B0.out.size); have Q1 : Hid (w1.heap[r2]? = some (.cells #[.int .u8 0, .int .i64 0, .string ⟨#[]⟩, .slice none 0 0] 192 (0, 0))) := (hb.block r2 hz0).trans R2.out; clear hb)
    | (with_reducible refine wpList_store_row rfl 192 (.tmp 2) (.tmp 10) rfl r2 #[.int .u8 0, .int .i64 0, .string ⟨#[]⟩, .slice none 0 0] rfl rfl 192 #[.int .u8 0, .int .i64 0, .string ⟨#[]⟩, .slice none 0 0] Q1.out (info4s _ _ _ _) (size4s _ _ _ _ _ _ _ _) (one4s _ _ _ _ _ _) ?_))
  have hl := run_loadVar_row (P := Tryz.prog) (w1.setRow r2 #[.int .u8 0, .int .i64 0, .string ⟨#[]⟩, .slice none 0 0]) r2 192 192 #[.int .u8 0, .int .i64 0, .string ⟨#[]⟩, .slice none 0 0] (0, 0) _ (setRow_heap w1 r2 _ _ 192 _ Q1.out) Tryz.underlying192 rfl (info4s _ _ _ _)
  exact bodyPost_ret (results_cell_tmp Tryz.results124 _ _ _ rfl hl) rfl ⟨below_setRow B1.out (by have := HR2.out; omega) _, fun _ => rfl, fun x h => by cases h⟩
theorem kids_ne {l : List UInt8} {x : Sh} {r : List UInt8} (h : parse 64 l = some (x, r)) : ∀ k ∈ x.kids, k ≠ [] := by
  cases l with
  | nil => rw [parse_nil] at h; cases h
  | cons c l =>
    rw [show (64 : Nat) = 63 + 1 from rfl, parse_rest] at h
    cases hp : restP 63 c l with
    | none => rw [hp] at h; cases h
    | some y =>
      obtain ⟨n, t, ks, d, u⟩ := y
      rw [hp] at h
      simp only [] at h
      split at h
      · cases h; exact (rest_kids hp).2
      · cases h
theorem flat_ge : ∀ ks : List (List UInt8), (∀ k ∈ ks, k ≠ []) → ks.length ≤ ks.flatten.length
  | [], _ => Nat.le_refl _
  | k :: ks, h => by
    have h1 := flat_ge ks (fun k' hk => h k' (by simp [hk]))
    have h2 : 0 < k.length := List.length_pos_iff.2 (h k (by simp))
    rw [List.flatten_cons, List.length_append, List.length_cons]; omega
theorem cell_later {w w' : World} {b o : Nat} {v : Value} (h : Below w.heap.size w w') (hc : w.cell? ⟨b, o, none⟩ = some v) : w'.cell? ⟨b, o, none⟩ = some v := (h.cell (World.block_lt_of_cell? w _ hc)).trans hc
theorem sh_form {R : Nat} {l : List UInt8} {x : Sh} {r : List UInt8} (h : parse (R + 1) l = some (x, r)) : (∃ l', l = x.op :: l') ∧ (x.op = 110 → x.kids = [] ∧ x.text = [] ∧ x.n ≤ 9223372036854775807) ∧ (x.op = 116 → x.kids = [] ∧ x.n = 0) ∧ (x.op ≠ 110 → x.op ≠ 116 → x.n = 0 ∧ x.text = []) := by
  cases l with
  | nil => rw [parse_nil] at h; cases h
  | cons c l =>
    rw [parse_rest] at h
    cases hp : restP R c l with
    | none => rw [hp] at h; cases h
    | some y =>
      obtain ⟨n, t, ks, d, u⟩ := y
      rw [hp] at h
      simp only [] at h
      split at h
      · cases h
        refine ⟨⟨l, rfl⟩, fun h110 => ?_, fun h116 => ?_, fun h1 h2 => ?_⟩
        · have h110 : c = 110 := h110
          subst h110
          simp only [restP, if_true, nameO] at hp
          split at hp
          · cases hp
          · rename_i hn
            cases hp
            refine ⟨rfl, rfl, ?_⟩
            cases l with
            | nil => simp [num] at hn
            | cons c l =>
              simp only [num] at hn
              split at hn
              · exact numTail_le 59 l _ _ _ (by have := c.toNat_lt; omega) hn
              · cases hn
        · have h116 : c = 116 := h116
          subst h116
          have e : restP R 116 l = textO l := by unfold restP; rw [if_neg (by decide), if_pos rfl]
          rw [e] at hp
          unfold textO at hp
          split at hp
          · cases hp
          · split at hp
            · cases hp; exact ⟨rfl, rfl⟩
            · cases hp
        · have key : ∀ k l', kidsO R k l' = some (n, t, ks, d, r) → n = 0 ∧ t = [] := by
            intro k l' hk
            unfold kidsO at hk
            split at hk
            · cases hk
            · cases hk; exact ⟨rfl, rfl⟩
          unfold restP at hp
          rw [if_neg h1, if_neg h2] at hp
          split at hp
          · unfold tupleO at hp
            split at hp
            · cases hp
            · split at hp
              · exact key _ _ hp
              · cases hp
          · split at hp
            · cases hp
            · exact key _ _ hp
      · cases h
set_option maxRecDepth 100000 in
set_option maxHeartbeats 4000000 in
theorem ropen_name (t : ByteArray) (w : World) (hm : t.size ≤ maxLen) (hs : t.size ≤ 16384) (x : Sh) (hr : rightB t.data.toList = true) (hp : parse 64 t.data.toList = some (x, [])) (hop : x.op = 110) : Calls Tryz.prog 124 #[.string t] w (OpenPost (some x) w) := by
  have HRB := Lib.hid hr
  have HPA := Lib.hid hp
  obtain ⟨⟨l', hl'⟩, hF⟩ := sh_form hp
  obtain ⟨h0, hc0⟩ := byte_at t 0 x.op l' hl'
  have h0i : (0 : Int) < (t.size : Int) := by omega
  have HF := Lib.hid hF
  clear hr hp hl' hF
  have hx110 : ((x.op.toNat : Nat) : Int) = 110 := by rw [hop]; rfl
  have HOP := Lib.hid hop
  have HX110 := Lib.hid hx110
  clear hop hx110
  go_enter Tryz.func124, Tryz.ntmps124
  go_upto_region 1 with fail
  have R2 := Lib.hid (heap_alloc_at w (.cells #[.int .u8 0, .int .i64 0, .string ⟨#[]⟩, .slice none 0 0] 192))
  have B0 := Lib.hid (below_new' w (.cells #[.int .u8 0, .int .i64 0, .string ⟨#[]⟩, .slice none 0 0] 192))
  generalize w.alloc (.cells #[.int .u8 0, .int .i64 0, .string ⟨#[]⟩, .slice none 0 0] 192) = w0 at R2 B0 ⊢
  obtain ⟨r2, hr2⟩ : ∃ r2, w.heap.size = r2 := ⟨_, rfl⟩
  have HR2 := Lib.hid hr2
  rw [hr2] at R2 ⊢
  clear hr2
  have hz0 : r2 < w0.heap.size := (Array.getElem?_eq_some_iff.1 R2.out).1
  have HRI := Lib.hid (rright_any t w0 hm)
  rw [HRB.out] at HRI
  have HC := fun W => Lib.hid (rread_top t hs W)
  rw [HPA.out] at HC
  go_upto_region 5 with (first
    | (go_at_call 70; (with_reducible refine Calls.mono HRI.out ?_); rintro e w1 ⟨rfl, hb⟩; have B1 : Hid (Below w.heap.size w w1) := B0.out.trans (hb.mono B0.out.size); have Q1 : Hid (w1.heap[r2]? = some (.cells #[.int .u8 0, .int .i64 0, .string ⟨#[]⟩, .slice none 0 0] 192 (0, 0))) := (hb.block r2 hz0).trans R2.out; have hz1 : r2 < w1.heap.size := (Array.getElem?_eq_some_iff.1 Q1.out).1; clear hb)
    | (go_at_call 127; (with_reducible refine Calls.mono (HC _).out ?_); rintro e w2 ⟨hb, _, hyes⟩; obtain ⟨xn, xf, ko, km, kc, rfl, hX1, hX2, hX3⟩ := hyes x _ rfl; have B2 : Hid (Below w.heap.size w w2) := B1.out.trans (hb.mono B1.out.size); have Q2 : Hid (w2.heap[r2]? = some (.cells #[.int .u8 0, .int .i64 0, .string ⟨#[]⟩, .slice none 0 0] 192 (0, 0))) := (hb.block r2 hz1).trans Q1.out; have HX1 := Lib.hid hX1; have HX2 := Lib.hid hX2; have HX3 := Lib.hid hX3; have hz2 : r2 < w2.heap.size := (Array.getElem?_eq_some_iff.1 Q2.out).1; have hw2 := hb.size; clear hb hyes hX1 hX2 hX3))
  have B4 : Hid (Below w.heap.size w ((w2.alloc (.cells #[.int .i64 (t.size : Int), .int .i64 (x.deep : Int), .int .u64 xn, .int .i64 xf, .slice ko km kc] 207)).alloc (.cells #[.int .u8 x.op.toNat, .int .i64 0, .string ⟨#[]⟩, .slice none 0 0] 192))) := (B2.out.alloc B2.out.size _).alloc (by have := B2.out.size; simp; omega) _
  have Q4 : Hid (((w2.alloc (.cells #[.int .i64 (t.size : Int), .int .i64 (x.deep : Int), .int .u64 xn, .int .i64 xf, .slice ko km kc] 207)).alloc (.cells #[.int .u8 x.op.toNat, .int .i64 0, .string ⟨#[]⟩, .slice none 0 0] 192)).heap[r2]? = some (.cells #[.int .u8 0, .int .i64 0, .string ⟨#[]⟩, .slice none 0 0] 192 (0, 0))) := (Below.heap_alloc _ _ r2 (by simp; omega)).trans ((Below.heap_alloc w2 _ r2 hz2).trans Q2.out)
  have C4 : Hid (((w2.alloc (.cells #[.int .i64 (t.size : Int), .int .i64 (x.deep : Int), .int .u64 xn, .int .i64 xf, .slice ko km kc] 207)).alloc (.cells #[.int .u8 x.op.toNat, .int .i64 0, .string ⟨#[]⟩, .slice none 0 0] 192)).heap[w2.heap.size]? = some (.cells #[.int .i64 (t.size : Int), .int .i64 (x.deep : Int), .int .u64 xn, .int .i64 xf, .slice ko km kc] 207 (0, 0))) := (Below.heap_alloc _ _ _ (by simp)).trans (heap_alloc_at w2 _)
  have P4 : Hid (((w2.alloc (.cells #[.int .i64 (t.size : Int), .int .i64 (x.deep : Int), .int .u64 xn, .int .i64 xf, .slice ko km kc] 207)).alloc (.cells #[.int .u8 x.op.toNat, .int .i64 0, .string ⟨#[]⟩, .slice none 0 0] 192)).heap[w2.heap.size + 1]? = some (.cells #[.int .u8 x.op.toNat, .int .i64 0, .string ⟨#[]⟩, .slice none 0 0] 192 (0, 0))) := by
    have := heap_alloc_at (w2.alloc (.cells #[.int .i64 (t.size : Int), .int .i64 (x.deep : Int), .int .u64 xn, .int .i64 xf, .slice ko km kc] 207)) (.cells #[.int .u8 x.op.toNat, .int .i64 0, .string ⟨#[]⟩, .slice none 0 0] 192)
    rw [World.size_alloc] at this
    exact this
  have B24 : Hid (Below w2.heap.size w2 ((w2.alloc (.cells #[.int .i64 (t.size : Int), .int .i64 (x.deep : Int), .int .u64 xn, .int .i64 xf, .slice ko km kc] 207)).alloc (.cells #[.int .u8 x.op.toNat, .int .i64 0, .string ⟨#[]⟩, .slice none 0 0] 192))) := (below_new' w2 _).alloc (by simp) _
  generalize ((w2.alloc (.cells #[.int .i64 (t.size : Int), .int .i64 (x.deep : Int), .int .u64 xn, .int .i64 xf, .slice ko km kc] 207)).alloc (.cells #[.int .u8 x.op.toNat, .int .i64 0, .string ⟨#[]⟩, .slice none 0 0] 192)) = w4 at B4 Q4 C4 P4 B24 ⊢
  obtain ⟨cb, hcb⟩ : ∃ cb, w2.heap.size = cb := ⟨_, rfl⟩
  have HCB := Lib.hid hcb
  rw [hcb] at C4 P4 hz2 ⊢
  obtain ⟨pb, hpb⟩ : ∃ pb, cb + 1 = pb := ⟨_, rfl⟩
  have HPB := Lib.hid hpb
  rw [hpb] at P4 ⊢
  clear hcb hpb
  have hcp : cb < pb := by have := HPB.out; omega
  have hbw : w.heap.size ≤ pb := by have := B2.out.size; have := HCB.out; have := HPB.out; omega
  have hrp : r2 < pb := by omega
  have c_0 : w4.cell? ⟨cb, 0, none⟩ = some (.int .i64 (t.size : Int)) := by simp [World.cell?, C4.out]
  have c_2 : w4.cell? ⟨cb, 2, none⟩ = some (.int .u64 xn) := by simp [World.cell?, C4.out]
  have c_3 : w4.cell? ⟨cb, 3, none⟩ = some (.int .i64 xf) := by simp [World.cell?, C4.out]
  have c_4 : w4.cell? ⟨cb, 4, none⟩ = some (.slice ko km kc) := by simp [World.cell?, C4.out]
  have p_0 : w4.cell? ⟨pb, 0, none⟩ = some (.int .u8 x.op.toNat) := by simp [World.cell?, P4.out]
  have p_1 : w4.cell? ⟨pb, 1, none⟩ = some (.int .i64 0) := by simp [World.cell?, P4.out]
  have p_2 : w4.cell? ⟨pb, 2, none⟩ = some (.string ⟨#[]⟩) := by simp [World.cell?, P4.out]
  have p_3 : w4.cell? ⟨pb, 3, none⟩ = some (.slice none 0 0) := by simp [World.cell?, P4.out]
  have pf := fun o => frozen_of_row w4 pb o _ 192 P4.out
  have hk0 : x.kids = [] := (HF.out.1 HOP.out).1
  have hkm : ¬ (1 : Int) < (km : Int) := by
    rcases HX3.out with ⟨_, h⟩ | ⟨p, _, hown⟩
    · cases h; omega
    · rw [hk0] at hown
      obtain ⟨g, _, _, h, _⟩ := own_offs hown (by simp)
      rw [h]; simp
  have hxn : xn = x.n := HX1.out HOP.out
  have hnb := (HF.out.1 HOP.out).2.2
  rw [← hxn] at hnb
  have HXN := Lib.hid hxn
  obtain ⟨y, hy⟩ : ∃ y : Int, (xn : Int) = y := ⟨_, rfl⟩
  have HY := Lib.hid hy
  have hy0 : 0 ≤ y := by omega
  have hy1 : y ≤ 9223372036854775807 := by omega
  have hx110 : ((x.op.toNat : Nat) : Int) = 110 := HX110.out
  rw [hy] at c_2
  clear hxn hnb hy hk0
  go_upto_region 10 with fail
  have B5 : Hid (Below w.heap.size w (w4.setCell ⟨pb, 1, none⟩ (.int .i64 y))) := B4.out.setCell (p := ⟨pb, 1, none⟩) hbw _
  have Q5 : Hid ((w4.setCell ⟨pb, 1, none⟩ (.int .i64 y)).heap[r2]? = some (.cells #[.int .u8 0, .int .i64 0, .string ⟨#[]⟩, .slice none 0 0] 192 (0, 0))) := (Below.heap_setCell w4 ⟨pb, 1, none⟩ _ r2 (by show r2 ≠ pb; omega)).trans Q4.out
  have P5 : Hid ((w4.setCell ⟨pb, 1, none⟩ (.int .i64 y)).heap[pb]? = some (.cells #[.int .u8 x.op.toNat, .int .i64 y, .string ⟨#[]⟩, .slice none 0 0] 192 (0, 0))) := heap_setCell_same w4 pb 1 _ 192 _ P4.out
  have c_4' : (w4.setCell ⟨pb, 1, none⟩ (.int .i64 y)).cell? ⟨cb, 4, none⟩ = some (.slice ko km kc) := (World.cell?_setCell_other _ _ _ _ (by intro e; have h1 : pb = cb := congrArg Addr.block e; omega)).trans c_4
  generalize w4.setCell ⟨pb, 1, none⟩ (.int .i64 y) = w5 at B5 Q5 P5 c_4' ⊢
  clear c_0 c_2 c_3 c_4 p_0 p_1 p_2 p_3 pf
  have p_0 : w5.cell? ⟨pb, 0, none⟩ = some (.int .u8 x.op.toNat) := by simp [World.cell?, P5.out]
  have p_1 : w5.cell? ⟨pb, 1, none⟩ = some (.int .i64 y) := by simp [World.cell?, P5.out]
  have p_2 : w5.cell? ⟨pb, 2, none⟩ = some (.string ⟨#[]⟩) := by simp [World.cell?, P5.out]
  have p_3 : w5.cell? ⟨pb, 3, none⟩ = some (.slice none 0 0) := by simp [World.cell?, P5.out]
  clear hx110
  go_wp2_with fail
  refine wp_loop_once ?_
  go_wp2_with (with_reducible refine wpList_store_row rfl 192 (.tmp 2) (.tmp 58) rfl r2 #[.int .u8 x.op.toNat, .int .i64 y, .string ⟨#[]⟩, .slice none 0 0] rfl rfl 192 #[.int .u8 0, .int .i64 0, .string ⟨#[]⟩, .slice none 0 0] Q5.out (info4s _ _ _ _) (size4s _ _ _ _ _ _ _ _) (one4s _ _ _ _ _ _) ?_)
  have hl := run_loadVar_row (P := Tryz.prog) (w5.setRow r2 #[.int .u8 x.op.toNat, .int .i64 y, .string ⟨#[]⟩, .slice none 0 0]) r2 192 192 #[.int .u8 x.op.toNat, .int .i64 y, .string ⟨#[]⟩, .slice none 0 0] (0, 0) _ (setRow_heap w5 r2 _ _ 192 _ Q5.out) Tryz.underlying192 rfl (info4s _ _ _ _)
  refine bodyPost_ret (results_cell_tmp Tryz.results124 _ _ _ rfl hl) rfl ⟨below_setRow B5.out (by have := HR2.out; omega) _, (fun h => by cases h), fun x' h => ?_⟩
  cases h
  refine ⟨⟨#[]⟩, none, 0, 0, ?_, ?_, ?_⟩
  · rw [show ((x.n : Nat) : Int) = y by rw [← HXN.out]; exact HY.out]; rfl
  · rw [(HF.out.1 HOP.out).2.1]
  · rw [(HF.out.1 HOP.out).1]; exact ⟨[], rfl, World.ownsRow_nil _ _ _ _⟩
set_option maxRecDepth 100000 in
set_option maxHeartbeats 4000000 in
theorem ropen_text (t : ByteArray) (w : World) (hm : t.size ≤ maxLen) (hs : t.size ≤ 16384) (x : Sh) (hr : rightB t.data.toList = true) (hp : parse 64 t.data.toList = some (x, [])) (hop : x.op = 116) : Calls Tryz.prog 124 #[.string t] w (OpenPost (some x) w) := by
  have HRB := Lib.hid hr
  have HPA := Lib.hid hp
  obtain ⟨⟨l', hl'⟩, hF⟩ := sh_form hp
  obtain ⟨h0, hc0⟩ := byte_at t 0 x.op l' hl'
  have h0i : (0 : Int) < (t.size : Int) := by omega
  have HF := Lib.hid hF
  clear hr hp hl' hF
  have hx116 : ((x.op.toNat : Nat) : Int) = 116 := by rw [hop]; rfl
  have HOP := Lib.hid hop
  have HX116 := Lib.hid hx116
  clear hop hx116
  go_enter Tryz.func124, Tryz.ntmps124
  go_upto_region 1 with fail
  have R2 := Lib.hid (heap_alloc_at w (.cells #[.int .u8 0, .int .i64 0, .string ⟨#[]⟩, .slice none 0 0] 192))
  have B0 := Lib.hid (below_new' w (.cells #[.int .u8 0, .int .i64 0, .string ⟨#[]⟩, .slice none 0 0] 192))
  generalize w.alloc (.cells #[.int .u8 0, .int .i64 0, .string ⟨#[]⟩, .slice none 0 0] 192) = w0 at R2 B0 ⊢
  obtain ⟨r2, hr2⟩ : ∃ r2, w.heap.size = r2 := ⟨_, rfl⟩
  have HR2 := Lib.hid hr2
  rw [hr2] at R2 ⊢
  clear hr2
  have hz0 : r2 < w0.heap.size := (Array.getElem?_eq_some_iff.1 R2.out).1
  have HRI := Lib.hid (rright_any t w0 hm)
  rw [HRB.out] at HRI
  have HC := fun W => Lib.hid (rread_top t hs W)
  rw [HPA.out] at HC
  go_upto_region 5 with (first
    | (go_at_call 70; (with_reducible refine Calls.mono HRI.out ?_); rintro e w1 ⟨rfl, hb⟩; have B1 : Hid (Below w.heap.size w w1) := B0.out.trans (hb.mono B0.out.size); have Q1 : Hid (w1.heap[r2]? = some (.cells #[.int .u8 0, .int .i64 0, .string ⟨#[]⟩, .slice none 0 0] 192 (0, 0))) := (hb.block r2 hz0).trans R2.out; have hz1 : r2 < w1.heap.size := (Array.getElem?_eq_some_iff.1 Q1.out).1; clear hb)
    | (go_at_call 127; (with_reducible refine Calls.mono (HC _).out ?_); rintro e w2 ⟨hb, _, hyes⟩; obtain ⟨xn, xf, ko, km, kc, rfl, hX1, hX2, hX3⟩ := hyes x _ rfl; have B2 : Hid (Below w.heap.size w w2) := B1.out.trans (hb.mono B1.out.size); have Q2 : Hid (w2.heap[r2]? = some (.cells #[.int .u8 0, .int .i64 0, .string ⟨#[]⟩, .slice none 0 0] 192 (0, 0))) := (hb.block r2 hz1).trans Q1.out; have HX1 := Lib.hid hX1; have HX2 := Lib.hid hX2; have HX3 := Lib.hid hX3; have hz2 : r2 < w2.heap.size := (Array.getElem?_eq_some_iff.1 Q2.out).1; have hw2 := hb.size; clear hb hyes hX1 hX2 hX3))
  have B4 : Hid (Below w.heap.size w ((w2.alloc (.cells #[.int .i64 (t.size : Int), .int .i64 (x.deep : Int), .int .u64 xn, .int .i64 xf, .slice ko km kc] 207)).alloc (.cells #[.int .u8 x.op.toNat, .int .i64 0, .string ⟨#[]⟩, .slice none 0 0] 192))) := (B2.out.alloc B2.out.size _).alloc (by have := B2.out.size; simp; omega) _
  have Q4 : Hid (((w2.alloc (.cells #[.int .i64 (t.size : Int), .int .i64 (x.deep : Int), .int .u64 xn, .int .i64 xf, .slice ko km kc] 207)).alloc (.cells #[.int .u8 x.op.toNat, .int .i64 0, .string ⟨#[]⟩, .slice none 0 0] 192)).heap[r2]? = some (.cells #[.int .u8 0, .int .i64 0, .string ⟨#[]⟩, .slice none 0 0] 192 (0, 0))) := (Below.heap_alloc _ _ r2 (by simp; omega)).trans ((Below.heap_alloc w2 _ r2 hz2).trans Q2.out)
  have C4 : Hid (((w2.alloc (.cells #[.int .i64 (t.size : Int), .int .i64 (x.deep : Int), .int .u64 xn, .int .i64 xf, .slice ko km kc] 207)).alloc (.cells #[.int .u8 x.op.toNat, .int .i64 0, .string ⟨#[]⟩, .slice none 0 0] 192)).heap[w2.heap.size]? = some (.cells #[.int .i64 (t.size : Int), .int .i64 (x.deep : Int), .int .u64 xn, .int .i64 xf, .slice ko km kc] 207 (0, 0))) := (Below.heap_alloc _ _ _ (by simp)).trans (heap_alloc_at w2 _)
  have P4 : Hid (((w2.alloc (.cells #[.int .i64 (t.size : Int), .int .i64 (x.deep : Int), .int .u64 xn, .int .i64 xf, .slice ko km kc] 207)).alloc (.cells #[.int .u8 x.op.toNat, .int .i64 0, .string ⟨#[]⟩, .slice none 0 0] 192)).heap[w2.heap.size + 1]? = some (.cells #[.int .u8 x.op.toNat, .int .i64 0, .string ⟨#[]⟩, .slice none 0 0] 192 (0, 0))) := by
    have := heap_alloc_at (w2.alloc (.cells #[.int .i64 (t.size : Int), .int .i64 (x.deep : Int), .int .u64 xn, .int .i64 xf, .slice ko km kc] 207)) (.cells #[.int .u8 x.op.toNat, .int .i64 0, .string ⟨#[]⟩, .slice none 0 0] 192)
    rw [World.size_alloc] at this
    exact this
  have B24 : Hid (Below w2.heap.size w2 ((w2.alloc (.cells #[.int .i64 (t.size : Int), .int .i64 (x.deep : Int), .int .u64 xn, .int .i64 xf, .slice ko km kc] 207)).alloc (.cells #[.int .u8 x.op.toNat, .int .i64 0, .string ⟨#[]⟩, .slice none 0 0] 192))) := (below_new' w2 _).alloc (by simp) _
  generalize ((w2.alloc (.cells #[.int .i64 (t.size : Int), .int .i64 (x.deep : Int), .int .u64 xn, .int .i64 xf, .slice ko km kc] 207)).alloc (.cells #[.int .u8 x.op.toNat, .int .i64 0, .string ⟨#[]⟩, .slice none 0 0] 192)) = w4 at B4 Q4 C4 P4 B24 ⊢
  obtain ⟨cb, hcb⟩ : ∃ cb, w2.heap.size = cb := ⟨_, rfl⟩
  have HCB := Lib.hid hcb
  rw [hcb] at C4 P4 hz2 ⊢
  obtain ⟨pb, hpb⟩ : ∃ pb, cb + 1 = pb := ⟨_, rfl⟩
  have HPB := Lib.hid hpb
  rw [hpb] at P4 ⊢
  clear hcb hpb
  have hcp : cb < pb := by have := HPB.out; omega
  have hbw : w.heap.size ≤ pb := by have := B2.out.size; have := HCB.out; have := HPB.out; omega
  have hrp : r2 < pb := by omega
  have c_0 : w4.cell? ⟨cb, 0, none⟩ = some (.int .i64 (t.size : Int)) := by simp [World.cell?, C4.out]
  have c_2 : w4.cell? ⟨cb, 2, none⟩ = some (.int .u64 xn) := by simp [World.cell?, C4.out]
  have c_3 : w4.cell? ⟨cb, 3, none⟩ = some (.int .i64 xf) := by simp [World.cell?, C4.out]
  have c_4 : w4.cell? ⟨cb, 4, none⟩ = some (.slice ko km kc) := by simp [World.cell?, C4.out]
  have p_0 : w4.cell? ⟨pb, 0, none⟩ = some (.int .u8 x.op.toNat) := by simp [World.cell?, P4.out]
  have p_1 : w4.cell? ⟨pb, 1, none⟩ = some (.int .i64 0) := by simp [World.cell?, P4.out]
  have p_2 : w4.cell? ⟨pb, 2, none⟩ = some (.string ⟨#[]⟩) := by simp [World.cell?, P4.out]
  have p_3 : w4.cell? ⟨pb, 3, none⟩ = some (.slice none 0 0) := by simp [World.cell?, P4.out]
  have pf := fun o => frozen_of_row w4 pb o _ 192 P4.out
  have hk0 : x.kids = [] := (HF.out.2.1 HOP.out).1
  have hkm : ¬ (1 : Int) < (km : Int) := by
    rcases HX3.out with ⟨_, h⟩ | ⟨p, _, hown⟩
    · cases h; omega
    · rw [hk0] at hown
      obtain ⟨g, _, _, h, _⟩ := own_offs hown (by simp)
      rw [h]; simp
  obtain ⟨hx1, hx2⟩ := HX2.out HOP.out
  simp only [List.length_nil, Nat.sub_zero] at hx1 hx2
  have hxi : (xf : Int) ≤ (t.size : Int) := by omega
  have HX2' := Lib.hid hx2
  obtain ⟨u, hu⟩ : ∃ u, t.extract xf t.size = u := ⟨_, rfl⟩
  have HU : Hid (u.data.toList = x.text) := by
    show _ = _
    rw [← hx2, ← hu, ByteArray.data_extract, Array.toList_extract]
  have hx116 : ((x.op.toNat : Nat) : Int) = 116 := HX116.out
  clear hk0 hx2
  go_upto_region 10 with fail
  try rw [hu]
  clear hu
  have B5 : Hid (Below w.heap.size w (w4.setCell ⟨pb, 2, none⟩ (.string u))) := B4.out.setCell (p := ⟨pb, 2, none⟩) hbw _
  have Q5 : Hid ((w4.setCell ⟨pb, 2, none⟩ (.string u)).heap[r2]? = some (.cells #[.int .u8 0, .int .i64 0, .string ⟨#[]⟩, .slice none 0 0] 192 (0, 0))) := (Below.heap_setCell w4 ⟨pb, 2, none⟩ _ r2 (by show r2 ≠ pb; omega)).trans Q4.out
  have P5 : Hid ((w4.setCell ⟨pb, 2, none⟩ (.string u)).heap[pb]? = some (.cells #[.int .u8 x.op.toNat, .int .i64 0, .string u, .slice none 0 0] 192 (0, 0))) := heap_setCell_same w4 pb 2 _ 192 _ P4.out
  have c_4' : (w4.setCell ⟨pb, 2, none⟩ (.string u)).cell? ⟨cb, 4, none⟩ = some (.slice ko km kc) := (World.cell?_setCell_other _ _ _ _ (by intro e; have h1 : pb = cb := congrArg Addr.block e; omega)).trans c_4
  generalize w4.setCell ⟨pb, 2, none⟩ (.string u) = w5 at B5 Q5 P5 c_4' ⊢
  clear c_0 c_2 c_3 c_4 p_0 p_1 p_2 p_3 pf
  have p_0 : w5.cell? ⟨pb, 0, none⟩ = some (.int .u8 x.op.toNat) := by simp [World.cell?, P5.out]
  have p_1 : w5.cell? ⟨pb, 1, none⟩ = some (.int .i64 0) := by simp [World.cell?, P5.out]
  have p_2 : w5.cell? ⟨pb, 2, none⟩ = some (.string u) := by simp [World.cell?, P5.out]
  have p_3 : w5.cell? ⟨pb, 3, none⟩ = some (.slice none 0 0) := by simp [World.cell?, P5.out]
  clear hx116
  go_wp2_with fail
  refine wp_loop_once ?_
  go_wp2_with (with_reducible refine wpList_store_row rfl 192 (.tmp 2) (.tmp 58) rfl r2 #[.int .u8 x.op.toNat, .int .i64 0, .string u, .slice none 0 0] rfl rfl 192 #[.int .u8 0, .int .i64 0, .string ⟨#[]⟩, .slice none 0 0] Q5.out (info4s _ _ _ _) (size4s _ _ _ _ _ _ _ _) (one4s _ _ _ _ _ _) ?_)
  have hl := run_loadVar_row (P := Tryz.prog) (w5.setRow r2 #[.int .u8 x.op.toNat, .int .i64 0, .string u, .slice none 0 0]) r2 192 192 #[.int .u8 x.op.toNat, .int .i64 0, .string u, .slice none 0 0] (0, 0) _ (setRow_heap w5 r2 _ _ 192 _ Q5.out) Tryz.underlying192 rfl (info4s _ _ _ _)
  refine bodyPost_ret (results_cell_tmp Tryz.results124 _ _ _ rfl hl) rfl ⟨below_setRow B5.out (by have := HR2.out; omega) _, (fun h => by cases h), fun x' h => ?_⟩
  cases h
  refine ⟨u, none, 0, 0, ?_, HU.out, ?_⟩
  · rw [(HF.out.2.1 HOP.out).2]; rfl
  · rw [(HF.out.2.1 HOP.out).1]; exact ⟨[], rfl, World.ownsRow_nil _ _ _ _⟩
theorem Tryz.info23' : (Tryz.prog.info? 23).map (fun i => (i.zero, i.size, i.bytes)) = some (some (.string ⟨#[]⟩), 1, 16) := by kernel_rfl
set_option maxRecDepth 100000 in
set_option maxHeartbeats 4000000 in
theorem ropen_parts (t : ByteArray) (w : World) (hm : t.size ≤ maxLen) (hs : t.size ≤ 16384) (x : Sh) (hr : rightB t.data.toList = true) (hp : parse 64 t.data.toList = some (x, [])) (h110 : x.op ≠ 110) (h116 : x.op ≠ 116) : Calls Tryz.prog 124 #[.string t] w (OpenPost (some x) w) := by
  have HRB := Lib.hid hr
  have HPA := Lib.hid hp
  obtain ⟨⟨l', hl'⟩, hF⟩ := sh_form hp
  obtain ⟨h0, hc0⟩ := byte_at t 0 x.op l' hl'
  have h0i : (0 : Int) < (t.size : Int) := by omega
  have HF := Lib.hid hF
  clear hr hp hl' hF
  obtain ⟨i0, hi0, hz1', hz2', hz3'⟩ := info_parts Tryz.info23'
  obtain ⟨oz, hoz⟩ : ∃ oz : Int, (x.op.toNat : Int) = oz := ⟨_, rfl⟩
  have ne : ∀ k : UInt8, x.op ≠ k → (x.op.toNat : Int) ≠ (k.toNat : Int) := fun k h h' => h (UInt8.toNat_inj.mp (by omega))
  have b110 : (oz == 110) = false := beq_eq_false_iff_ne.mpr (by rw [← hoz]; exact ne 110 h110)
  have b116 : (oz == 116) = false := beq_eq_false_iff_ne.mpr (by rw [← hoz]; exact ne 116 h116)
  have HN := Lib.hid (HF.out.2.2 h110 h116)
  have HOZ := Lib.hid hoz
  clear ne h110 h116 hoz
  go_enter Tryz.func124, Tryz.ntmps124
  go_upto_region 1 with fail
  have R2 := Lib.hid (heap_alloc_at w (.cells #[.int .u8 0, .int .i64 0, .string ⟨#[]⟩, .slice none 0 0] 192))
  have B0 := Lib.hid (below_new' w (.cells #[.int .u8 0, .int .i64 0, .string ⟨#[]⟩, .slice none 0 0] 192))
  generalize w.alloc (.cells #[.int .u8 0, .int .i64 0, .string ⟨#[]⟩, .slice none 0 0] 192) = w0 at R2 B0 ⊢
  obtain ⟨r2, hr2⟩ : ∃ r2, w.heap.size = r2 := ⟨_, rfl⟩
  have HR2 := Lib.hid hr2
  rw [hr2] at R2 ⊢
  clear hr2
  have hz0 : r2 < w0.heap.size := (Array.getElem?_eq_some_iff.1 R2.out).1
  have HRI := Lib.hid (rright_any t w0 hm)
  rw [HRB.out] at HRI
  have HC := fun W => Lib.hid (rread_top t hs W)
  rw [HPA.out] at HC
  go_upto_region 5 with (first
    | (go_at_call 70; (with_reducible refine Calls.mono HRI.out ?_); rintro e w1 ⟨rfl, hb⟩; have B1 : Hid (Below w.heap.size w w1) := B0.out.trans (hb.mono B0.out.size); have Q1 : Hid (w1.heap[r2]? = some (.cells #[.int .u8 0, .int .i64 0, .string ⟨#[]⟩, .slice none 0 0] 192 (0, 0))) := (hb.block r2 hz0).trans R2.out; have hz1 : r2 < w1.heap.size := (Array.getElem?_eq_some_iff.1 Q1.out).1; clear hb)
    | (go_at_call 127; (with_reducible refine Calls.mono (HC _).out ?_); rintro e w2 ⟨hb, _, hyes⟩; obtain ⟨xn, xf, ko, km, kc, rfl, hX1, hX2, hX3⟩ := hyes x _ rfl; have B2 : Hid (Below w.heap.size w w2) := B1.out.trans (hb.mono B1.out.size); have Q2 : Hid (w2.heap[r2]? = some (.cells #[.int .u8 0, .int .i64 0, .string ⟨#[]⟩, .slice none 0 0] 192 (0, 0))) := (hb.block r2 hz1).trans Q1.out; have HX1 := Lib.hid hX1; have HX2 := Lib.hid hX2; have HX3 := Lib.hid hX3; have hz2 : r2 < w2.heap.size := (Array.getElem?_eq_some_iff.1 Q2.out).1; have hw2 := hb.size; clear hb hyes hX1 hX2 hX3))
  have B4 : Hid (Below w.heap.size w ((w2.alloc (.cells #[.int .i64 (t.size : Int), .int .i64 (x.deep : Int), .int .u64 xn, .int .i64 xf, .slice ko km kc] 207)).alloc (.cells #[.int .u8 x.op.toNat, .int .i64 0, .string ⟨#[]⟩, .slice none 0 0] 192))) := (B2.out.alloc B2.out.size _).alloc (by have := B2.out.size; simp; omega) _
  have Q4 : Hid (((w2.alloc (.cells #[.int .i64 (t.size : Int), .int .i64 (x.deep : Int), .int .u64 xn, .int .i64 xf, .slice ko km kc] 207)).alloc (.cells #[.int .u8 x.op.toNat, .int .i64 0, .string ⟨#[]⟩, .slice none 0 0] 192)).heap[r2]? = some (.cells #[.int .u8 0, .int .i64 0, .string ⟨#[]⟩, .slice none 0 0] 192 (0, 0))) := (Below.heap_alloc _ _ r2 (by simp; omega)).trans ((Below.heap_alloc w2 _ r2 hz2).trans Q2.out)
  have C4 : Hid (((w2.alloc (.cells #[.int .i64 (t.size : Int), .int .i64 (x.deep : Int), .int .u64 xn, .int .i64 xf, .slice ko km kc] 207)).alloc (.cells #[.int .u8 x.op.toNat, .int .i64 0, .string ⟨#[]⟩, .slice none 0 0] 192)).heap[w2.heap.size]? = some (.cells #[.int .i64 (t.size : Int), .int .i64 (x.deep : Int), .int .u64 xn, .int .i64 xf, .slice ko km kc] 207 (0, 0))) := (Below.heap_alloc _ _ _ (by simp)).trans (heap_alloc_at w2 _)
  have P4 : Hid (((w2.alloc (.cells #[.int .i64 (t.size : Int), .int .i64 (x.deep : Int), .int .u64 xn, .int .i64 xf, .slice ko km kc] 207)).alloc (.cells #[.int .u8 x.op.toNat, .int .i64 0, .string ⟨#[]⟩, .slice none 0 0] 192)).heap[w2.heap.size + 1]? = some (.cells #[.int .u8 x.op.toNat, .int .i64 0, .string ⟨#[]⟩, .slice none 0 0] 192 (0, 0))) := by
    have := heap_alloc_at (w2.alloc (.cells #[.int .i64 (t.size : Int), .int .i64 (x.deep : Int), .int .u64 xn, .int .i64 xf, .slice ko km kc] 207)) (.cells #[.int .u8 x.op.toNat, .int .i64 0, .string ⟨#[]⟩, .slice none 0 0] 192)
    rw [World.size_alloc] at this
    exact this
  have B24 : Hid (Below w2.heap.size w2 ((w2.alloc (.cells #[.int .i64 (t.size : Int), .int .i64 (x.deep : Int), .int .u64 xn, .int .i64 xf, .slice ko km kc] 207)).alloc (.cells #[.int .u8 x.op.toNat, .int .i64 0, .string ⟨#[]⟩, .slice none 0 0] 192))) := (below_new' w2 _).alloc (by simp) _
  generalize ((w2.alloc (.cells #[.int .i64 (t.size : Int), .int .i64 (x.deep : Int), .int .u64 xn, .int .i64 xf, .slice ko km kc] 207)).alloc (.cells #[.int .u8 x.op.toNat, .int .i64 0, .string ⟨#[]⟩, .slice none 0 0] 192)) = w4 at B4 Q4 C4 P4 B24 ⊢
  obtain ⟨cb, hcb⟩ : ∃ cb, w2.heap.size = cb := ⟨_, rfl⟩
  have HCB := Lib.hid hcb
  rw [hcb] at C4 P4 hz2 ⊢
  obtain ⟨pb, hpb⟩ : ∃ pb, cb + 1 = pb := ⟨_, rfl⟩
  have HPB := Lib.hid hpb
  rw [hpb] at P4 ⊢
  clear hcb hpb
  have hcp : cb < pb := by have := HPB.out; omega
  have hbw : w.heap.size ≤ pb := by have := B2.out.size; have := HCB.out; have := HPB.out; omega
  have hrp : r2 < pb := by omega
  have c_0 : w4.cell? ⟨cb, 0, none⟩ = some (.int .i64 (t.size : Int)) := by simp [World.cell?, C4.out]
  have c_2 : w4.cell? ⟨cb, 2, none⟩ = some (.int .u64 xn) := by simp [World.cell?, C4.out]
  have c_3 : w4.cell? ⟨cb, 3, none⟩ = some (.int .i64 xf) := by simp [World.cell?, C4.out]
  have c_4 : w4.cell? ⟨cb, 4, none⟩ = some (.slice ko km kc) := by simp [World.cell?, C4.out]
  have p_0 : w4.cell? ⟨pb, 0, none⟩ = some (.int .u8 x.op.toNat) := by simp [World.cell?, P4.out]
  have p_1 : w4.cell? ⟨pb, 1, none⟩ = some (.int .i64 0) := by simp [World.cell?, P4.out]
  have p_2 : w4.cell? ⟨pb, 2, none⟩ = some (.string ⟨#[]⟩) := by simp [World.cell?, P4.out]
  have p_3 : w4.cell? ⟨pb, 3, none⟩ = some (.slice none 0 0) := by simp [World.cell?, P4.out]
  have pf := fun o => frozen_of_row w4 pb o _ 192 P4.out
  have hoz : (x.op.toNat : Int) = oz := HOZ.out
  have hkk : Hid (∃ K : Nat, x.kids.length = K ∧ km ≤ K + 1 ∧ (0 < K → km = K + 1 ∧ ∃ g p, ko = some ⟨g, 0, none⟩ ∧ g < cb ∧ t.data.toList.drop p = x.kids.flatten ∧ ∀ (i o : Nat), (offs p x.kids)[i]? = some o → w4.cell? ⟨g, i, none⟩ = some (.int .i64 (o : Int)))) := by
    refine ⟨_, rfl, ?_⟩
    rcases HX3.out with ⟨h1, h2⟩ | ⟨p, h1, hown⟩
    · cases h2; rw [h1]; exact ⟨by omega, fun h => by simp at h⟩
    · obtain ⟨g, e1, e2, e3, e4⟩ := own_offs hown (by omega)
      refine ⟨by omega, fun _ => ⟨e3, g, p, e1, by have := HCB.out; omega, by rw [List.append_nil] at h1; exact h1, fun i o hio => cell_later B24.out (e4 i o hio)⟩⟩
  obtain ⟨K, hK, hkm, hks⟩ := hkk.out
  have HK := Lib.hid hK
  have HKS := Lib.hid hks
  have hKb : K ≤ 16384 := by
    by_cases h0 : 0 < K
    · obtain ⟨_, _, _, _, _, hdr, _⟩ := HKS.out h0
      have h1 := flat_ge x.kids (kids_ne HPA.out)
      rw [HK.out, ← hdr, drop_len] at h1
      omega
    · omega
  have K4 : Hid (KidsAt (pb + 1) (.slice none 0 0) [] w4) := ⟨[], rfl, World.ownsRow_nil _ _ _ _⟩
  clear hkk hK hks c_0 c_2 c_3 p_0 p_1 p_2 p_3 pf
  go_wp2_with fail
  go_loopw [6] (fun iv wr => ∃ (j : Nat) (o0 : Option Addr) (c0' : Nat), j ≤ K ∧ iv = .int .i64 ((j : Int) + 1) ∧ Hid (KidsAt (pb + 1) (Value.slice o0 j c0') (x.kids.take j) wr) ∧ Hid (wr.heap[pb]? = some (.cells #[.int .u8 x.op.toNat, .int .i64 0, .string ⟨#[]⟩, .slice o0 j c0'] 192 (0, 0))) ∧ Hid (Below pb w4 wr)) (fun iv _ => K + 1 - (intOf iv).toNat)
  case atStart => exact ⟨0, none, 0, by omega, rfl, by rw [List.take_zero]; exact K4.out, P4.out, Below.refl _ _⟩
  case round =>
    obtain ⟨j, o0, c0', hj, rfl, hKd, hP, hB⟩ := hrel
    have d_4 : wr.cell? ⟨cb, 4, none⟩ = some (.slice ko km kc) := (hB.out.cell (p := ⟨cb, 4, none⟩) hcp).trans c_4
    by_cases hlt : j < K
    · obtain ⟨rfl, g, p, rfl, hg, hdr, hcell⟩ := HKS.out (by omega)
      obtain ⟨k, hk⟩ : ∃ k, x.kids[j]? = some k := ⟨_, List.getElem?_eq_getElem (by have := HK.out; omega)⟩
      have hpa := part_at _ [] p x.kids (by rw [List.append_nil]; exact hdr) j k hk
      obtain ⟨oa, hoa⟩ : ∃ oa, p + (x.kids.take j).flatten.length = oa := ⟨_, rfl⟩
      rw [hoa] at hpa
      have ca := hcell j oa (by rw [offs_at x.kids p j (by have := HK.out; omega), hoa])
      have htk : x.kids.take (j + 1) = x.kids.take j ++ [k] := by
        have hi := (List.getElem?_eq_some_iff.1 hk).1
        rw [List.take_succ_eq_append_getElem hi, show x.kids[j] = k by rw [List.getElem?_eq_getElem hi] at hk; exact Option.some.inj hk]
      have cb' := hcell (j + 1) (oa + k.length) (by rw [offs_at x.kids p (j + 1) (by have := HK.out; omega), htk, List.flatten_append, List.length_append, List.flatten_cons, List.flatten_nil, List.append_nil, ← hoa]; congr 1; omega)
      have hlen := congrArg List.length hpa
      rw [drop_len, List.length_append] at hlen
      have hle : k = [] ∨ oa + k.length ≤ t.size := by
        cases k with
        | nil => exact .inl rfl
        | cons c r => right; simp only [List.length_cons] at hlen ⊢; omega
      have hne := kids_ne HPA.out k (List.mem_of_getElem? hk)
      have hob' : oa + k.length ≤ t.size := hle.resolve_left hne
      obtain ⟨ob', hob⟩ : ∃ ob', oa + k.length = ob' := ⟨_, rfl⟩
      rw [hob] at cb' hob'
      have hoab : (oa : Int) ≤ (ob' : Int) := by omega
      have hobi : (ob' : Int) ≤ (t.size : Int) := by omega
      have ga := (hB.out.cell (p := ⟨g, j, none⟩) (show g < pb by omega)).trans ca
      have gb := (hB.out.cell (p := ⟨g, j + 1, none⟩) (show g < pb by omega)).trans cb'
      have HTK := Lib.hid htk
      have HEX : Hid ((t.extract oa ob').data.toList = k) := by
        show _ = _
        rw [ByteArray.data_extract, Array.toList_extract]
        show (t.data.toList.drop oa).take (ob' - oa) = k
        rw [hpa, show ob' - oa = k.length by omega, List.take_left]
      have hji : (j : Int) + 1 < ((K + 1 : Nat) : Int) := by omega
      have hji2 : (j : Int) < ((K + 1 : Nat) : Int) := by omega
      have hj0 : 0 ≤ (j : Int) + 1 := by omega
      have w1 : IntKind.i64.wrap (j : Int) = (j : Int) := by simp [IntKind.wrap, IntKind.bits, IntKind.signed]; omega
      have hji3 : (j : Int) + 1 < (K : Int) + 1 := by omega
      have hji4 : (j : Int) < (K : Int) + 1 := by omega
      have w2' : (j : Int) + 1 - 1 = (j : Int) := by omega
      have ht1 : ((j : Int) + 1).toNat = j + 1 := by omega
      obtain ⟨vs, hvs, hown⟩ := hKd.out
      have HVS := Lib.hid hvs
      have hvl : vs.length = j := by
        have := congrArg List.length hvs
        rw [List.length_map, List.length_take] at this
        have := HK.out; omega
      have HVL := Lib.hid hvl
      have HOWN := Lib.hid hown
      have e_3 : wr.cell? ⟨pb, 3, none⟩ = some (.slice o0 j c0') := by simp [World.cell?, hP.out]
      have e_f := fun o => frozen_of_row wr pb o _ 192 hP.out
      have hpl : pb < wr.heap.size := (Array.getElem?_eq_some_iff.1 hP.out).1
      have HOB : Hid ((Value.slice o0 j c0').ownBlock ≠ some pb) := fun e => by have := (kids_lt hKd.out pb e).1; omega
      have HLT : Hid (∀ g', (Value.slice o0 j c0').ownBlock = some g' → pb ≤ g') := fun g' e => by have := (kids_lt hKd.out g' e).1; omega
      have HPW : Hid (((wr.alloc (.cells #[.string (t.extract oa ob')] 23)).drew).heap[pb]? = some (.cells #[.int .u8 x.op.toNat, .int .i64 0, .string ⟨#[]⟩, .slice o0 j c0'] 192 (0, 0))) := (Below.heap_alloc wr _ pb hpl).trans hP.out
      have HNW : Hid (((wr.alloc (.cells #[.string (t.extract oa ob')] 23)).drew).heap[wr.heap.size]? = some (.cells #[.string (t.extract oa ob')] 23 (0, 0))) := heap_alloc_at wr _
      have HBW : Hid (Below pb w4 ((wr.alloc (.cells #[.string (t.extract oa ob')] 23)).drew)) := (hB.out.alloc (by omega) _).drew
      clear hk hpa htk hlen hle hne hcell hdr hvs hvl hown ca cb' hoa hob
      go_upto_region 13 with fail
      go_region_law ((refine step_append_lies _ (by rfl) _ _ _ (by rfl) (pb + 1) 23 i0 _ 1 16 Tryz.underlying22 hi0 hz1' hz2' hz3' rfl (by omega) (.slice o0 j c0') vs.length (vs.map Value.string) (by rfl) ((HOWN.out.alloc _).drew) ⟨wr.heap.size, 0, none⟩ 1 1 [.string (t.extract oa ob')] (by rfl) (by rfl) (World.news_of_block (cs := #[.string (t.extract oa ob')]) (t := 23) (fr := (0, 0)) HNW.out) (by simp [Value.oneCell']) (by omega) (by rw [HVL.out]; unfold maxLen; omega) (by rw [HVL.out]; omega) (by simp; omega) (wr.heap.size + 1) (by simp) ?_; intro g7 cap7 w7 hown7 hgrow7 hat7 hlt7; have P7 : Hid (w7.heap[pb]? = some (.cells #[.int .u8 x.op.toNat, .int .i64 0, .string ⟨#[]⟩, .slice o0 j c0'] 192 (0, 0))) := (hgrow7.block pb (by simp; omega) (fun e => HOB.out e.symm)).trans HPW.out; have BB7 : Hid (Below pb w4 w7) := HBW.out.grown hgrow7 (by simp; omega) HLT.out; have HO7 := Lib.hid hown7; have q_3 : w7.cell? ⟨pb, 3, none⟩ = some (.slice o0 j c0') := (by simp [World.cell?, P7.out]); have q_f := (fun o => frozen_of_row w7 pb o _ 192 P7.out); clear hown7 hgrow7 hlt7))
      all_goals go_wp2_with fail
      all_goals go_roundw
      all_goals first
        | (simp [intOf]; omega)
        | (
          rw [HVL.out]
          refine ⟨j + 1, by omega, by omega, some ⟨g7, 0, none⟩, cap7, ?_, ?_, ?_⟩
          · refine ⟨vs ++ [t.extract oa ob'], ?_, ?_⟩
            · rw [List.map_append, HVS.out, HTK.out, List.map_cons, List.map_nil, HEX.out]
            · rw [List.length_append, List.map_append, HVL.out]
              have h := HO7.out
              rw [HVL.out] at h
              exact ownsRow_blocks h (fun g' hg' => Below.heap_setCell w7 ⟨pb, 3, none⟩ _ g' (fun e => by
                have h1 := (h.lt g' hg').1
                have h2 : g' = pb := e
                omega))
          · rw [← HOZ.out]; exact heap_setCell_same w7 pb 3 _ 192 (.slice (some ⟨g7, 0, none⟩) (j + 1) cap7) P7.out
          · exact BB7.out.setCell (p := ⟨pb, 3, none⟩) (Nat.le_refl _) _)
    · obtain rfl : j = K := by omega
      have hji : ¬ (j : Int) + 1 < (km : Int) := by omega
      clear hoz
      have BX : Hid (Below w.heap.size w wr) := B4.out.trans (hB.out.mono hbw)
      have QX : Hid (wr.heap[r2]? = some (.cells #[.int .u8 0, .int .i64 0, .string ⟨#[]⟩, .slice none 0 0] 192 (0, 0))) := (hB.out.block r2 hrp).trans Q4.out
      have p_0 : wr.cell? ⟨pb, 0, none⟩ = some (.int .u8 x.op.toNat) := by simp [World.cell?, hP.out]
      have p_1 : wr.cell? ⟨pb, 1, none⟩ = some (.int .i64 0) := by simp [World.cell?, hP.out]
      have p_2 : wr.cell? ⟨pb, 2, none⟩ = some (.string ⟨#[]⟩) := by simp [World.cell?, hP.out]
      have p_3 : wr.cell? ⟨pb, 3, none⟩ = some (.slice o0 j c0') := by simp [World.cell?, hP.out]
      go_wp2_with (with_reducible refine wpList_store_row rfl 192 (.tmp 2) (.tmp 58) rfl r2 #[.int .u8 x.op.toNat, .int .i64 0, .string ⟨#[]⟩, .slice o0 j c0'] rfl rfl 192 #[.int .u8 0, .int .i64 0, .string ⟨#[]⟩, .slice none 0 0] QX.out (info4s _ _ _ _) (size4s _ _ _ _ _ _ _ _) (one4s _ _ _ _ _ _) ?_)
      have hl := run_loadVar_row (P := Tryz.prog) (wr.setRow r2 #[.int .u8 x.op.toNat, .int .i64 0, .string ⟨#[]⟩, .slice o0 j c0']) r2 192 192 #[.int .u8 x.op.toNat, .int .i64 0, .string ⟨#[]⟩, .slice o0 j c0'] (0, 0) _ (setRow_heap wr r2 _ _ 192 _ QX.out) Tryz.underlying192 rfl (info4s _ _ _ _)
      refine bodyPost_ret (results_cell_tmp Tryz.results124 _ _ _ rfl hl) rfl ⟨below_setRow BX.out (by have := HR2.out; omega) _, (fun h => by cases h), fun x' h => ?_⟩
      cases h
      refine ⟨⟨#[]⟩, o0, j, c0', ?_, ?_, ?_⟩
      · rw [HN.out.1]; rfl
      · rw [HN.out.2]
      · have hk := hKd.out
        rw [List.take_of_length_le (by have := HK.out; omega)] at hk
        exact kids_base (kids_fr (S := fun k => k = r2) hk ((Fr.refl _ wr).setR r2 _ (fun _ => rfl)) (fun g hg e => by have := (kids_lt hKd.out g hg).1; omega)) (by omega)
end Go.Proofs.YtbdimlppnhcicaaGreatDoor

