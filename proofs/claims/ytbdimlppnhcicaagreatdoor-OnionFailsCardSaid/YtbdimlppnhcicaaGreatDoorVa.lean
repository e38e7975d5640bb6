import Derived.Test.YtbdimlppnhcicaaGreatDoorRefI
import Derived.Test.YtbdimlppnhcicaaGreatDoorKa
/- term: the document's Open, all of it. -/
namespace Go.Proofs.YtbdimlppnhcicaaGreatDoor
set_option linter.unusedVariables false
open Go.RowKit
theorem ropen_any (t : ByteArray) (w : World) (hm : t.size ≤ maxLen) : Calls Tryz.prog 124 #[.string t] w (OpenPost (readP t.data.toList) w) := by
  cases ho : readP t.data.toList with
  | none => exact ropen_no t w hm (by unfold rightB; rw [ho]; rfl)
  | some x =>
    obtain ⟨hp, hl⟩ := read_parse ho
    have hr : rightB t.data.toList = true := by unfold rightB; rw [ho]; rfl
    have hs : t.size ≤ 16384 := by rw [← list_size]; exact hl
    by_cases h1 : x.op = 110
    · exact ropen_name t w hm hs x hr hp h1
    · by_cases h2 : x.op = 116
      · exact ropen_text t w hm hs x hr hp h2
      · exact ropen_parts t w hm hs x hr hp h1 h2
end Go.Proofs.YtbdimlppnhcicaaGreatDoor
/- term: the document's key. -/
namespace Go.Proofs.YtbdimlppnhcicaaGreatDoor
set_option linter.unusedVariables false
open Go.RowKit
set_option maxRecDepth 100000 in
set_option maxHeartbeats 4000000 in
theorem rkey_86 (t : ByteArray) (w : World) (x : Sh) (hx : readP t.data.toList = some x) (h : x.op = 86)
    (ih : ∀ (k : ByteArray) (W : World), k.size < t.size → rt k = true → Calls Tryz.prog 194 #[.string k] W fun e w' => e = .returned (.string (keyS k)) ∧ Below W.heap.size W w') :
    Calls Tryz.prog 194 #[.string t] w fun e w' => e = .returned (.string (keyS t)) ∧ Below w.heap.size w w' := by
  have hs : t.size ≤ 16384 := by rw [← list_size]; exact (read_parse hx).2
  have HX := Lib.hid hx
  have HOP := Lib.hid h
  have hz : (x.op.toNat : Int) = 86 := by rw [h]; rfl
  have h2 := read_arity hx 2 (by rw [h]; rfl)
  have HO := Lib.hid (ropen_any t w (by unfold maxLen; omega))
  rw [hx] at HO
  have IH := Lib.hid ih
  clear hx h ih
  go_enter Tryz.func194, Tryz.ntmps194
  go_upto_region 2 with (go_at_call 124; (with_reducible refine Calls.mono HO.out ?_); rintro e w1 ⟨hb, _, hyes⟩; obtain ⟨u, ko, km, kc, rfl, _, hK⟩ := hyes x rfl; have B1 := Lib.hid hb; have K1 := Lib.hid hK; clear hb hyes hK)
  obtain ⟨k0, k1, g, cap', e0, e1, ev, c0, c1⟩ := two_kids K1.out h2
  cases ev
  have B2 : Hid (Below w.heap.size w (w1.alloc (.cells #[.int .u8 86, .int .i64 x.n, .string u, .slice (some ⟨g, 0, none⟩) 2 kc] 192))) := B1.out.alloc B1.out.size _
  have CX : Hid ((w1.alloc (.cells #[.int .u8 86, .int .i64 x.n, .string u, .slice (some ⟨g, 0, none⟩) 2 kc] 192)).heap[w1.heap.size]? = some (.cells #[.int .u8 86, .int .i64 x.n, .string u, .slice (some ⟨g, 0, none⟩) 2 kc] 192 (0, 0))) := heap_alloc_at w1 _
  have d0 := cell_later (below_new' w1 (.cells #[.int .u8 86, .int .i64 x.n, .string u, .slice (some ⟨g, 0, none⟩) 2 kc] 192)) c0
  have d1 := cell_later (below_new' w1 (.cells #[.int .u8 86, .int .i64 x.n, .string u, .slice (some ⟨g, 0, none⟩) 2 kc] 192)) c1
  generalize w1.alloc (.cells #[.int .u8 86, .int .i64 x.n, .string u, .slice (some ⟨g, 0, none⟩) 2 kc] 192) = w2 at B2 CX d0 d1 ⊢
  obtain ⟨xb, hxb⟩ : ∃ xb, w1.heap.size = xb := ⟨_, rfl⟩
  rw [hxb] at CX ⊢
  clear hxb c0 c1 K1
  have x_0 : w2.cell? ⟨xb, 0, none⟩ = some (.int .u8 86) := by simp [World.cell?, CX.out]
  have x_3 : w2.cell? ⟨xb, 3, none⟩ = some (.slice (some ⟨g, 0, none⟩) 2 kc) := by simp [World.cell?, CX.out]
  have hk := read_kids HX.out
  have r0 := hk _ (nth_mem (i := 0) (by omega))
  have r1 := hk _ (nth_mem (i := 1) (by omega))
  rw [← e0, list_size] at r0
  rw [← e1, list_size] at r1
  rw [list_size] at r0 r1
  have hz0 := keyS_size k0 r0.1
  have hz1 := keyS_size k1 r1.1
  have HK : Hid (keyS t = ⟨#[87]⟩ ++ keyS k0 ++ keyS k1) := keyS_86 t k0 k1 x HX.out HOP.out e0 e1
  have HC0 : Hid (∀ W, Below w2.heap.size w2 W → Calls Tryz.prog 194 #[.string k0] W fun e w' => e = .returned (.string (keyS k0)) ∧ Below W.heap.size W w') := fun W _ => IH.out k0 W r0.2 r0.1
  have HC1 : Hid (∀ W, Below w2.heap.size w2 W → Calls Tryz.prog 194 #[.string k1] W fun e w' => e = .returned (.string (keyS k1)) ∧ Below W.heap.size W w') := fun W _ => IH.out k1 W r1.2 r1.1
  generalize keyS k0 = s0 at HC0 HK hz0
  generalize keyS k1 = s1 at HC1 HK hz1
  have a1 := cat_any ⟨#[87]⟩ s0 (by rw [size1]; omega)
  have a2 := cat_any (⟨#[87]⟩ ++ s0) s1 (by rw [ByteArray.size_append, size1]; omega)
  clear hz0 hz1 hk r0 r1 e0 e1 IH HX HOP h2
  go_wp2_with fail
  have BW := Below.refl w2.heap.size w2
  go_region_held3 (fun w' => Below w2.heap.size w2 w' ∧ w'.cell? ⟨xb, 3, none⟩ = some (.slice (some ⟨g, 0, none⟩) 2 kc) ∧ w'.cell? ⟨g, 0, none⟩ = some (.string k0) ∧ w'.cell? ⟨g, 1, none⟩ = some (.string k1))
    ((go_split_ands; with_reducible exact keep3 (by (first | (with_reducible assumption) | (repeat' (first | (with_reducible exact Below.refl _ _) | (with_reducible assumption) | (with_reducible refine Below.drew ?_) | (with_reducible refine below_drewN ?_ _) | (refine Below.trans ?_ (Below.mono (by assumption) ?_)) | go_size)))) (by with_reducible assumption) (by with_reducible assumption) (by with_reducible assumption)))
    ((first
      | (go_at_call 194; go_split_ands; (with_reducible refine Calls.mono (HC0.out _ (by with_reducible assumption)) ?_); rintro e w6 ⟨rfl, hb6⟩; have BX : Below w2.heap.size w2 w6 := lt2 (by with_reducible assumption) hb6)
      | (go_at_call 194; go_split_ands; (with_reducible refine Calls.mono (HC1.out _ (by with_reducible assumption)) ?_); rintro e w7 ⟨rfl, hb7⟩; have BY : Below w2.heap.size w2 w7 := lt2 (by with_reducible assumption) hb7)))
  all_goals go_wp2_with fail
  all_goals go_ret
  exact ⟨by rw [HK.out]; rfl, B2.out.trans (Below.mono (by assumption) B2.out.size)⟩
set_option maxRecDepth 100000 in
set_option maxHeartbeats 4000000 in
theorem rkey_75 (t : ByteArray) (w : World) (x : Sh) (hx : readP t.data.toList = some x) (h : x.op = 75)
    (ih : ∀ (k : ByteArray) (W : World), k.size < t.size → rt k = true → Calls Tryz.prog 194 #[.string k] W fun e w' => e = .returned (.string (keyS k)) ∧ Below W.heap.size W w') :
    Calls Tryz.prog 194 #[.string t] w fun e w' => e = .returned (.string (keyS t)) ∧ Below w.heap.size w w' := by
  have hs : t.size ≤ 16384 := by rw [← list_size]; exact (read_parse hx).2
  have HX := Lib.hid hx
  have HOP := Lib.hid h
  have hz : (x.op.toNat : Int) = 75 := by rw [h]; rfl
  have h2 := read_arity hx 2 (by rw [h]; rfl)
  have HO := Lib.hid (ropen_any t w (by unfold maxLen; omega))
  rw [hx] at HO
  have IH := Lib.hid ih
  clear hx h ih
  go_enter Tryz.func194, Tryz.ntmps194
  go_upto_region 2 with (go_at_call 124; (with_reducible refine Calls.mono HO.out ?_); rintro e w1 ⟨hb, _, hyes⟩; obtain ⟨u, ko, km, kc, rfl, _, hK⟩ := hyes x rfl; have B1 := Lib.hid hb; have K1 := Lib.hid hK; clear hb hyes hK)
  obtain ⟨k0, k1, g, cap', e0, e1, ev, c0, c1⟩ := two_kids K1.out h2
  cases ev
  have B2 : Hid (Below w.heap.size w (w1.alloc (.cells #[.int .u8 75, .int .i64 x.n, .string u, .slice (some ⟨g, 0, none⟩) 2 kc] 192))) := B1.out.alloc B1.out.size _
  have CX : Hid ((w1.alloc (.cells #[.int .u8 75, .int .i64 x.n, .string u, .slice (some ⟨g, 0, none⟩) 2 kc] 192)).heap[w1.heap.size]? = some (.cells #[.int .u8 75, .int .i64 x.n, .string u, .slice (some ⟨g, 0, none⟩) 2 kc] 192 (0, 0))) := heap_alloc_at w1 _
  have d0 := cell_later (below_new' w1 (.cells #[.int .u8 75, .int .i64 x.n, .string u, .slice (some ⟨g, 0, none⟩) 2 kc] 192)) c0
  have d1 := cell_later (below_new' w1 (.cells #[.int .u8 75, .int .i64 x.n, .string u, .slice (some ⟨g, 0, none⟩) 2 kc] 192)) c1
  generalize w1.alloc (.cells #[.int .u8 75, .int .i64 x.n, .string u, .slice (some ⟨g, 0, none⟩) 2 kc] 192) = w2 at B2 CX d0 d1 ⊢
  obtain ⟨xb, hxb⟩ : ∃ xb, w1.heap.size = xb := ⟨_, rfl⟩
  rw [hxb] at CX ⊢
  clear hxb c0 c1 K1
  have x_0 : w2.cell? ⟨xb, 0, none⟩ = some (.int .u8 75) := by simp [World.cell?, CX.out]
  have x_3 : w2.cell? ⟨xb, 3, none⟩ = some (.slice (some ⟨g, 0, none⟩) 2 kc) := by simp [World.cell?, CX.out]
  have hk := read_kids HX.out
  have r0 := hk _ (nth_mem (i := 0) (by omega))
  have r1 := hk _ (nth_mem (i := 1) (by omega))
  rw [← e0, list_size] at r0
  rw [← e1, list_size] at r1
  rw [list_size] at r0 r1
  have hz0 := keyS_size k0 r0.1
  have hz1 := right_size r1.1
  have HK : Hid (keyS t = ⟨#[76]⟩ ++ keyS k0 ++ k1) := keyS_75 t k0 k1 x HX.out HOP.out e0 e1
  have HC0 : Hid (∀ W, Below w2.heap.size w2 W → Calls Tryz.prog 194 #[.string k0] W fun e w' => e = .returned (.string (keyS k0)) ∧ Below W.heap.size W w') := fun W _ => IH.out k0 W r0.2 r0.1
  generalize keyS k0 = s0 at HC0 HK hz0
  have a1 := cat_any ⟨#[76]⟩ s0 (by rw [size1]; omega)
  have a2 := cat_any (⟨#[76]⟩ ++ s0) k1 (by rw [ByteArray.size_append, size1]; omega)
  clear hz0 hz1 hk r0 r1 e0 e1 IH HX HOP h2
  go_wp2_with fail
  have BW := Below.refl w2.heap.size w2
  go_region_held3 (fun w' => Below w2.heap.size w2 w' ∧ w'.cell? ⟨xb, 3, none⟩ = some (.slice (some ⟨g, 0, none⟩) 2 kc) ∧ w'.cell? ⟨g, 0, none⟩ = some (.string k0) ∧ w'.cell? ⟨g, 1, none⟩ = some (.string k1))
    ((go_split_ands; with_reducible exact keep3 (by (first | (with_reducible assumption) | (repeat' (first | (with_reducible exact Below.refl _ _) | (with_reducible assumption) | (with_reducible refine Below.drew ?_) | (with_reducible refine below_drewN ?_ _) | (refine Below.trans ?_ (Below.mono (by assumption) ?_)) | go_size)))) (by with_reducible assumption) (by with_reducible assumption) (by with_reducible assumption)))
    ((go_at_call 194; go_split_ands; (with_reducible refine Calls.mono (HC0.out _ (by with_reducible assumption)) ?_); rintro e w6 ⟨rfl, hb6⟩; have BX : Below w2.heap.size w2 w6 := lt2 (by with_reducible assumption) hb6))
  all_goals go_wp2_with fail
  all_goals go_ret
  exact ⟨by rw [HK.out]; rfl, B2.out.trans (Below.mono (by assumption) B2.out.size)⟩
set_option maxRecDepth 100000 in
set_option maxHeartbeats 4000000 in
theorem rkey_else (t : ByteArray) (w : World) (x : Sh) (hx : readP t.data.toList = some x) (h : x.op ≠ 86) (h' : x.op ≠ 75) : Calls Tryz.prog 194 #[.string t] w fun e w' => e = .returned (.string (keyS t)) ∧ Below w.heap.size w w' := by
  have hs : t.size ≤ 16384 := by rw [← list_size]; exact (read_parse hx).2
  have c1 := cat_any ⟨#[80]⟩ t (by rw [size1]; omega)
  rw [keyS_else t x hx h h']
  have HO := Lib.hid (ropen_any t w (by unfold maxLen; omega))
  rw [hx] at HO
  obtain ⟨oz, hoz⟩ : ∃ oz : Int, (x.op.toNat : Int) = oz := ⟨_, rfl⟩
  have ne : ∀ k : UInt8, x.op ≠ k → (x.op.toNat : Int) ≠ (k.toNat : Int) := fun k h h' => h (UInt8.toNat_inj.mp (by omega))
  have b1 : (oz == 86) = false := beq_eq_false_iff_ne.mpr (by rw [← hoz]; exact ne 86 h)
  have b2 : (oz == 75) = false := beq_eq_false_iff_ne.mpr (by rw [← hoz]; exact ne 75 h')
  clear ne h h' hx
  go_enter Tryz.func194, Tryz.ntmps194
  go_upto_region 2 with (go_at_call 124; (with_reducible refine Calls.mono HO.out ?_); rintro e w1 ⟨hb, _, hyes⟩; obtain ⟨u, ko, km, kc, rfl, _, hK⟩ := hyes x rfl; have B1 := Lib.hid hb; clear hb hyes hK)
  have B2 : Hid (Below w.heap.size w (w1.alloc (.cells #[.int .u8 oz, .int .i64 x.n, .string u, .slice ko km kc] 192))) := B1.out.alloc B1.out.size _
  have CX : Hid ((w1.alloc (.cells #[.int .u8 oz, .int .i64 x.n, .string u, .slice ko km kc] 192)).heap[w1.heap.size]? = some (.cells #[.int .u8 oz, .int .i64 x.n, .string u, .slice ko km kc] 192 (0, 0))) := heap_alloc_at w1 _
  generalize w1.alloc (.cells #[.int .u8 oz, .int .i64 x.n, .string u, .slice ko km kc] 192) = w2 at B2 CX ⊢
  obtain ⟨xb, hxb⟩ : ∃ xb, w1.heap.size = xb := ⟨_, rfl⟩
  rw [hxb] at CX ⊢
  clear hxb
  have x_0 : w2.cell? ⟨xb, 0, none⟩ = some (.int .u8 oz) := by simp [World.cell?, CX.out]
  go_wp2_with fail
  go_ret
  exact ⟨rfl, B2.out⟩
theorem rkey_any : ∀ (n : Nat) (t : ByteArray) (w : World), t.size ≤ n → rt t = true → Calls Tryz.prog 194 #[.string t] w fun e w' => e = .returned (.string (keyS t)) ∧ Below w.heap.size w w' := by
  intro n
  induction n with
  | zero =>
    intro t w hn hr
    obtain ⟨x, hx⟩ := right_read hr
    obtain ⟨l', e⟩ := read_head hx
    have := congrArg List.length e
    rw [list_size, List.length_cons] at this; omega
  | succ n ih =>
    intro t w hn hr
    obtain ⟨x, hx⟩ := right_read hr
    by_cases h86 : x.op = 86
    · exact rkey_86 t w x hx h86 (fun k W hk hr => ih k W (by omega) hr)
    · by_cases h75 : x.op = 75
      · exact rkey_75 t w x hx h75 (fun k W hk hr => ih k W (by omega) hr)
      · exact rkey_else t w x hx h86 h75
end Go.Proofs.YtbdimlppnhcicaaGreatDoor
/- term: Unbox. -/
namespace Go.Proofs.YtbdimlppnhcicaaGreatDoor
set_option linter.unusedVariables false
open Go.RowKit
theorem str_neq_self (a : ByteArray) (W : World) : (Op.stringOp .neq a a).run Tryz.prog W = .ok (.bool false) W := by simp [Op.stringOp, Sem.run_pure]
theorem str_eql_self (a : ByteArray) (W : World) : (Op.stringOp .eql a a).run Tryz.prog W = .ok (.bool true) W := by simp [Op.stringOp, Sem.run_pure]
theorem toList_ne {a b : ByteArray} (h : a ≠ b) : (a.toList == b.toList) = false := by
  rw [beq_eq_false_iff_ne]
  intro e
  apply h
  have ea := extract_list a 0 a.size
  have eb := extract_list b 0 b.size
  simp only [ByteArray.extract_zero_size, List.drop_zero, Nat.sub_zero] at ea eb
  rw [ea, eb] at e
  rw [List.take_of_length_le (by rw [list_size]; exact Nat.le_refl _), List.take_of_length_le (by rw [list_size]; exact Nat.le_refl _)] at e
  exact ByteArray.ext (Array.toList_inj.1 e)
theorem str_neq (a b : ByteArray) (h : a ≠ b) (W : World) : (Op.stringOp .neq a b).run Tryz.prog W = .ok (.bool true) W := by simp [Op.stringOp, Sem.run_pure, toList_ne h]
theorem str_eql_no (a b : ByteArray) (h : a ≠ b) (W : World) : (Op.stringOp .eql a b).run Tryz.prog W = .ok (.bool false) W := by simp [Op.stringOp, Sem.run_pure, toList_ne h]
/-- what Unbox answers -/
def unboxO (k t : ByteArray) : Option ByteArray := match readP t.data.toList with
  | some x => if x.op = 66 ∧ nth x.kids 0 = k.data.toList then some ⟨(nth x.kids 1).toArray⟩ else none
  | none => none
def unboxV (o : Option ByteArray) : Value := match o with
  | some t => .tuple #[.string t, .bool true]
  | none => .tuple #[.string ⟨#[]⟩, .bool false]
set_option maxRecDepth 100000 in
set_option maxHeartbeats 4000000 in
theorem unbox_none (k t : ByteArray) (w : World) (hm : t.size ≤ maxLen) (hL : LibOk w) (hx : readP t.data.toList = none) : Calls Tryz.prog 59 #[.string k, .string t] w fun e w' => e = .returned (unboxV none) ∧ Below w.heap.size w w' := by
  have HO := Lib.hid (open_any t w hm hL)
  rw [hx] at HO
  clear hx hL
  unfold unboxV
  go_enter Tryz.func59, Tryz.ntmps59
  go_upto_region 2 with (go_at_call 120; (with_reducible refine Calls.mono HO.out ?_); rintro e w1 ⟨hb, hno, _⟩; obtain rfl := hno rfl; have B1 := Lib.hid hb; clear hb hno)
  have B2 : Hid (Below w.heap.size w (w1.alloc (.cells #[.int .u8 0, .int .i64 0, .string ⟨#[]⟩, .slice none 0 0] 192))) := B1.out.alloc B1.out.size _
  have CX : Hid ((w1.alloc (.cells #[.int .u8 0, .int .i64 0, .string ⟨#[]⟩, .slice none 0 0] 192)).heap[w1.heap.size]? = some (.cells #[.int .u8 0, .int .i64 0, .string ⟨#[]⟩, .slice none 0 0] 192 (0, 0))) := heap_alloc_at w1 _
  generalize w1.alloc (.cells #[.int .u8 0, .int .i64 0, .string ⟨#[]⟩, .slice none 0 0] 192) = w2 at B2 CX ⊢
  obtain ⟨xb, hxb⟩ : ∃ xb, w1.heap.size = xb := ⟨_, rfl⟩
  rw [hxb] at CX ⊢
  clear hxb
  have x_0 : w2.cell? ⟨xb, 0, none⟩ = some (.int .u8 0) := by simp [World.cell?, CX.out]
  go_wp2_with fail
  go_ret2
  exact ⟨rfl, B2.out⟩
set_option maxRecDepth 100000 in
set_option maxHeartbeats 4000000 in
theorem unbox_other (k t : ByteArray) (w : World) (x : Sh) (hm : t.size ≤ maxLen) (hL : LibOk w) (hx : readP t.data.toList = some x) (h : x.op ≠ 66) : Calls Tryz.prog 59 #[.string k, .string t] w fun e w' => e = .returned (unboxV none) ∧ Below w.heap.size w w' := by
  have HO := Lib.hid (open_any t w hm hL)
  rw [hx] at HO
  obtain ⟨oz, hoz⟩ : ∃ oz : Int, (x.op.toNat : Int) = oz := ⟨_, rfl⟩
  have ne : ∀ k : UInt8, x.op ≠ k → (x.op.toNat : Int) ≠ (k.toNat : Int) := fun k h h' => h (UInt8.toNat_inj.mp (by omega))
  have b1 : (oz != 66) = true := by rw [bne_iff_ne, ← hoz]; exact ne 66 h
  clear ne h hx hL
  unfold unboxV
  go_enter Tryz.func59, Tryz.ntmps59
  go_upto_region 2 with (go_at_call 120; (with_reducible refine Calls.mono HO.out ?_); rintro e w1 ⟨hb, _, hyes⟩; obtain ⟨u, ko, km, kc, rfl, _, hK⟩ := hyes x rfl; have B1 := Lib.hid hb; clear hb hyes hK)
  have B2 : Hid (Below w.heap.size w (w1.alloc (.cells #[.int .u8 oz, .int .i64 x.n, .string u, .slice ko km kc] 192))) := B1.out.alloc B1.out.size _
  have CX : Hid ((w1.alloc (.cells #[.int .u8 oz, .int .i64 x.n, .string u, .slice ko km kc] 192)).heap[w1.heap.size]? = some (.cells #[.int .u8 oz, .int .i64 x.n, .string u, .slice ko km kc] 192 (0, 0))) := heap_alloc_at w1 _
  generalize w1.alloc (.cells #[.int .u8 oz, .int .i64 x.n, .string u, .slice ko km kc] 192) = w2 at B2 CX ⊢
  obtain ⟨xb, hxb⟩ : ∃ xb, w1.heap.size = xb := ⟨_, rfl⟩
  rw [hxb] at CX ⊢
  clear hxb
  have x_0 : w2.cell? ⟨xb, 0, none⟩ = some (.int .u8 oz) := by simp [World.cell?, CX.out]
  go_wp2_with fail
  go_ret2
  exact ⟨rfl, B2.out⟩
set_option maxRecDepth 100000 in
set_option maxHeartbeats 4000000 in
theorem unbox_66 (k t : ByteArray) (w : World) (x : Sh) (hm : t.size ≤ maxLen) (hL : LibOk w) (hx : readP t.data.toList = some x) (h : x.op = 66) (o : Option ByteArray) (ho : (if nth x.kids 0 = k.data.toList then some (⟨(nth x.kids 1).toArray⟩ : ByteArray) else none) = o) : Calls Tryz.prog 59 #[.string k, .string t] w fun e w' => e = .returned (unboxV o) ∧ Below w.heap.size w w' := by
  have HO := Lib.hid (open_any t w hm hL)
  rw [hx] at HO
  have hz : (x.op.toNat : Int) = 66 := by rw [h]; rfl
  have h2 := read_arity hx 2 (by rw [h]; rfl)
  have HOO := Lib.hid ho
  clear hx hL h ho
  go_enter Tryz.func59, Tryz.ntmps59
  go_upto_region 2 with (go_at_call 120; (with_reducible refine Calls.mono HO.out ?_); rintro e w1 ⟨hb, _, hyes⟩; obtain ⟨u, ko, km, kc, rfl, _, hK⟩ := hyes x rfl; have B1 := Lib.hid hb; have K1 := Lib.hid hK; clear hb hyes hK)
  obtain ⟨k0, k1, g, cap', e0, e1, ev, c0, c1⟩ := two_kids K1.out h2
  cases ev
  have HE : Hid (o = if k0 = k then some k1 else none) := by
    show _ = _
    rw [← HOO.out, ← e0, ← e1]
    by_cases hk : k0 = k
    · rw [if_pos hk, if_pos (by rw [hk])]
    · rw [if_neg hk, if_neg (fun e => hk (ByteArray.ext (Array.toList_inj.1 e)))]
  have B2 : Hid (Below w.heap.size w (w1.alloc (.cells #[.int .u8 66, .int .i64 x.n, .string u, .slice (some ⟨g, 0, none⟩) 2 kc] 192))) := B1.out.alloc B1.out.size _
  have CX : Hid ((w1.alloc (.cells #[.int .u8 66, .int .i64 x.n, .string u, .slice (some ⟨g, 0, none⟩) 2 kc] 192)).heap[w1.heap.size]? = some (.cells #[.int .u8 66, .int .i64 x.n, .string u, .slice (some ⟨g, 0, none⟩) 2 kc] 192 (0, 0))) := heap_alloc_at w1 _
  have d0 := cell_later (below_new' w1 (.cells #[.int .u8 66, .int .i64 x.n, .string u, .slice (some ⟨g, 0, none⟩) 2 kc] 192)) c0
  have d1 := cell_later (below_new' w1 (.cells #[.int .u8 66, .int .i64 x.n, .string u, .slice (some ⟨g, 0, none⟩) 2 kc] 192)) c1
  generalize w1.alloc (.cells #[.int .u8 66, .int .i64 x.n, .string u, .slice (some ⟨g, 0, none⟩) 2 kc] 192) = w2 at B2 CX d0 d1 ⊢
  obtain ⟨xb, hxb⟩ : ∃ xb, w1.heap.size = xb := ⟨_, rfl⟩
  rw [hxb] at CX ⊢
  clear hxb c0 c1 K1 e0 e1
  have x_0 : w2.cell? ⟨xb, 0, none⟩ = some (.int .u8 66) := by simp [World.cell?, CX.out]
  have x_3 : w2.cell? ⟨xb, 3, none⟩ = some (.slice (some ⟨g, 0, none⟩) 2 kc) := by simp [World.cell?, CX.out]
  by_cases hk : k0 = k
  · rw [if_pos hk] at HE
    have q1 : (k0.toList == k.toList) = true := by rw [hk]; simp
    clear hk
    go_wp2_with fail
    go_ret2
    exact ⟨by rw [HE.out]; rfl, B2.out⟩
  · rw [if_neg hk] at HE
    have q1 := toList_ne hk
    clear hk
    go_wp2_with fail
    go_ret2
    exact ⟨by rw [HE.out]; rfl, B2.out⟩
theorem unbox_any (k t : ByteArray) (w : World) (hm : t.size ≤ maxLen) (hL : LibOk w) : Calls Tryz.prog 59 #[.string k, .string t] w fun e w' => e = .returned (unboxV (unboxO k t)) ∧ Below w.heap.size w w' := by
  unfold unboxO
  cases hx : readP t.data.toList with
  | none => exact unbox_none k t w hm hL hx
  | some x =>
    by_cases h : x.op = 66
    · simp only [h, true_and]
      exact unbox_66 k t w x hm hL hx h _ rfl
    · simp only [h, false_and, if_false]
      exact unbox_other k t w x hm hL hx h
end Go.Proofs.YtbdimlppnhcicaaGreatDoor
/- term: Verify. -/
namespace Go.Proofs.YtbdimlppnhcicaaGreatDoor
set_option linter.unusedVariables false
open Go.RowKit
/-- what Verify answers -/
def verifyB (p q t : ByteArray) : Bool := match readP t.data.toList with
  | some x => decide (x.op = 83) && decide (nth x.kids 1 = q.data.toList ∧ keyB (nth x.kids 0) = p.data.toList)
  | none => false
end Go.Proofs.YtbdimlppnhcicaaGreatDoor
/- term: the document's Unbox. -/
namespace Go.Proofs.YtbdimlppnhcicaaGreatDoor
set_option linter.unusedVariables false
open Go.RowKit
set_option maxRecDepth 100000 in
set_option maxHeartbeats 4000000 in
theorem runbox_none (k t : ByteArray) (w : World) (hm : t.size ≤ maxLen) (hx : readP t.data.toList = none) : Calls Tryz.prog 63 #[.string k, .string t] w fun e w' => e = .returned (unboxV none) ∧ Below w.heap.size w w' := by
  have HO := Lib.hid (ropen_any t w hm)
  rw [hx] at HO
  clear hx
  unfold unboxV
  go_enter Tryz.func63, Tryz.ntmps63
  go_upto_region 2 with (go_at_call 124; (with_reducible refine Calls.mono HO.out ?_); rintro e w1 ⟨hb, hno, _⟩; obtain rfl := hno rfl; have B1 := Lib.hid hb; clear hb hno)
  have B2 : Hid (Below w.heap.size w (w1.alloc (.cells #[.int .u8 0, .int .i64 0, .string ⟨#[]⟩, .slice none 0 0] 192))) := B1.out.alloc B1.out.size _
  have CX : Hid ((w1.alloc (.cells #[.int .u8 0, .int .i64 0, .string ⟨#[]⟩, .slice none 0 0] 192)).heap[w1.heap.size]? = some (.cells #[.int .u8 0, .int .i64 0, .string ⟨#[]⟩, .slice none 0 0] 192 (0, 0))) := heap_alloc_at w1 _
  generalize w1.alloc (.cells #[.int .u8 0, .int .i64 0, .string ⟨#[]⟩, .slice none 0 0] 192) = w2 at B2 CX ⊢
  obtain ⟨xb, hxb⟩ : ∃ xb, w1.heap.size = xb := ⟨_, rfl⟩
  rw [hxb] at CX ⊢
  clear hxb
  have x_0 : w2.cell? ⟨xb, 0, none⟩ = some (.int .u8 0) := by simp [World.cell?, CX.out]
  go_wp2_with fail
  go_ret2
  exact ⟨rfl, B2.out⟩
set_option maxRecDepth 100000 in
set_option maxHeartbeats 4000000 in
theorem runbox_other (k t : ByteArray) (w : World) (x : Sh) (hm : t.size ≤ maxLen) (hx : readP t.data.toList = some x) (h : x.op ≠ 66) : Calls Tryz.prog 63 #[.string k, .string t] w fun e w' => e = .returned (unboxV none) ∧ Below w.heap.size w w' := by
  have HO := Lib.hid (ropen_any t w hm)
  rw [hx] at HO
  obtain ⟨oz, hoz⟩ : ∃ oz : Int, (x.op.toNat : Int) = oz := ⟨_, rfl⟩
  have ne : ∀ k : UInt8, x.op ≠ k → (x.op.toNat : Int) ≠ (k.toNat : Int) := fun k h h' => h (UInt8.toNat_inj.mp (by omega))
  have b1 : (oz != 66) = true := by rw [bne_iff_ne, ← hoz]; exact ne 66 h
  clear ne h hx
  unfold unboxV
  go_enter Tryz.func63, Tryz.ntmps63
  go_upto_region 2 with (go_at_call 124; (with_reducible refine Calls.mono HO.out ?_); rintro e w1 ⟨hb, _, hyes⟩; obtain ⟨u, ko, km, kc, rfl, _, hK⟩ := hyes x rfl; have B1 := Lib.hid hb; clear hb hyes hK)
  have B2 : Hid (Below w.heap.size w (w1.alloc (.cells #[.int .u8 oz, .int .i64 x.n, .string u, .slice ko km kc] 192))) := B1.out.alloc B1.out.size _
  have CX : Hid ((w1.alloc (.cells #[.int .u8 oz, .int .i64 x.n, .string u, .slice ko km kc] 192)).heap[w1.heap.size]? = some (.cells #[.int .u8 oz, .int .i64 x.n, .string u, .slice ko km kc] 192 (0, 0))) := heap_alloc_at w1 _
  generalize w1.alloc (.cells #[.int .u8 oz, .int .i64 x.n, .string u, .slice ko km kc] 192) = w2 at B2 CX ⊢
  obtain ⟨xb, hxb⟩ : ∃ xb, w1.heap.size = xb := ⟨_, rfl⟩
  rw [hxb] at CX ⊢
  clear hxb
  have x_0 : w2.cell? ⟨xb, 0, none⟩ = some (.int .u8 oz) := by simp [World.cell?, CX.out]
  go_wp2_with fail
  go_ret2
  exact ⟨rfl, B2.out⟩
set_option maxRecDepth 100000 in
set_option maxHeartbeats 4000000 in
theorem runbox_66 (k t : ByteArray) (w : World) (x : Sh) (hm : t.size ≤ maxLen) (hx : readP t.data.toList = some x) (h : x.op = 66) (o : Option ByteArray) (ho : (if nth x.kids 0 = k.data.toList then some (⟨(nth x.kids 1).toArray⟩ : ByteArray) else none) = o) : Calls Tryz.prog 63 #[.string k, .string t] w fun e w' => e = .returned (unboxV o) ∧ Below w.heap.size w w' := by
  have HO := Lib.hid (ropen_any t w hm)
  rw [hx] at HO
  have hz : (x.op.toNat : Int) = 66 := by rw [h]; rfl
  have h2 := read_arity hx 2 (by rw [h]; rfl)
  have HOO := Lib.hid ho
  clear hx h ho
  go_enter Tryz.func63, Tryz.ntmps63
  go_upto_region 2 with (go_at_call 124; (with_reducible refine Calls.mono HO.out ?_); rintro e w1 ⟨hb, _, hyes⟩; obtain ⟨u, ko, km, kc, rfl, _, hK⟩ := hyes x rfl; have B1 := Lib.hid hb; have K1 := Lib.hid hK; clear hb hyes hK)
  obtain ⟨k0, k1, g, cap', e0, e1, ev, c0, c1⟩ := two_kids K1.out h2
  cases ev
  have HE : Hid (o = if k0 = k then some k1 else none) := by
    show _ = _
    rw [← HOO.out, ← e0, ← e1]
    by_cases hk : k0 = k
    · rw [if_pos hk, if_pos (by rw [hk])]
    · rw [if_neg hk, if_neg (fun e => hk (ByteArray.ext (Array.toList_inj.1 e)))]
  have B2 : Hid (Below w.heap.size w (w1.alloc (.cells #[.int .u8 66, .int .i64 x.n, .string u, .slice (some ⟨g, 0, none⟩) 2 kc] 192))) := B1.out.alloc B1.out.size _
  have CX : Hid ((w1.alloc (.cells #[.int .u8 66, .int .i64 x.n, .string u, .slice (some ⟨g, 0, none⟩) 2 kc] 192)).heap[w1.heap.size]? = some (.cells #[.int .u8 66, .int .i64 x.n, .string u, .slice (some ⟨g, 0, none⟩) 2 kc] 192 (0, 0))) := heap_alloc_at w1 _
  have d0 := cell_later (below_new' w1 (.cells #[.int .u8 66, .int .i64 x.n, .string u, .slice (some ⟨g, 0, none⟩) 2 kc] 192)) c0
  have d1 := cell_later (below_new' w1 (.cells #[.int .u8 66, .int .i64 x.n, .string u, .slice (some ⟨g, 0, none⟩) 2 kc] 192)) c1
  generalize w1.alloc (.cells #[.int .u8 66, .int .i64 x.n, .string u, .slice (some ⟨g, 0, none⟩) 2 kc] 192) = w2 at B2 CX d0 d1 ⊢
  obtain ⟨xb, hxb⟩ : ∃ xb, w1.heap.size = xb := ⟨_, rfl⟩
  rw [hxb] at CX ⊢
  clear hxb c0 c1 K1 e0 e1
  have x_0 : w2.cell? ⟨xb, 0, none⟩ = some (.int .u8 66) := by simp [World.cell?, CX.out]
  have x_3 : w2.cell? ⟨xb, 3, none⟩ = some (.slice (some ⟨g, 0, none⟩) 2 kc) := by simp [World.cell?, CX.out]
  by_cases hk : k0 = k
  · rw [if_pos hk] at HE
    have q1 : (k0.toList == k.toList) = true := by rw [hk]; simp
    clear hk
    go_wp2_with fail
    go_ret2
    exact ⟨by rw [HE.out]; rfl, B2.out⟩
  · rw [if_neg hk] at HE
    have q1 := toList_ne hk
    clear hk
    go_wp2_with fail
    go_ret2
    exact ⟨by rw [HE.out]; rfl, B2.out⟩
theorem runbox_any (k t : ByteArray) (w : World) (hm : t.size ≤ maxLen) : Calls Tryz.prog 63 #[.string k, .string t] w fun e w' => e = .returned (unboxV (unboxO k t)) ∧ Below w.heap.size w w' := by
  unfold unboxO
  cases hx : readP t.data.toList with
  | none => exact runbox_none k t w hm hx
  | some x =>
    by_cases h : x.op = 66
    · simp only [h, true_and]
      exact runbox_66 k t w x hm hx h _ rfl
    · simp only [h, false_and, if_false]
      exact runbox_other k t w x hm hx h
end Go.Proofs.YtbdimlppnhcicaaGreatDoor
/- term: the document's Verify. -/
namespace Go.Proofs.YtbdimlppnhcicaaGreatDoor
set_option linter.unusedVariables false
open Go.RowKit
end Go.Proofs.YtbdimlppnhcicaaGreatDoor
