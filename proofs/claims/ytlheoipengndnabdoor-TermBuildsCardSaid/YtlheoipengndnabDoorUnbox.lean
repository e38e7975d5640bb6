/- term: Unbox. -/
import Derived.Test.YtlheoipengndnabDoorKeyC
namespace Go.Proofs.YtlheoipengndnabDoor
set_option linter.unusedVariables false
open Go.RowKit
theorem str_neq_self (a : ByteArray) (W : World) : (Op.stringOp .neq a a).run Tryd.prog W = .ok (.bool false) W := by simp [Op.stringOp, Sem.run_pure]
theorem str_eql_self (a : ByteArray) (W : World) : (Op.stringOp .eql a a).run Tryd.prog W = .ok (.bool true) W := by simp [Op.stringOp, Sem.run_pure]
theorem toList_ne {a b : ByteArray} (h : a ≠ b) : (a.toList == b.toList) = false := by
  rw [beq_eq_false_iff_ne]
  intro e
  apply h
  have ea := extract_list a 0 a.size
  have eb := extract_list b 0 b.size
  simp only [ByteArray.extract_zero_size, List.drop_zero, Nat.sub_zero] at ea eb
  rw [ea, eb] at e
  rw [List.take_of_length_le (by rw [list_size]; exact Nat.le_refl _), List.take_of_length_le (by rw [list_size]; exact Nat.le_refl _)] at e
  exact ByteArray.ext (Array.toList_inj.1 e)
theorem str_neq (a b : ByteArray) (h : a ≠ b) (W : World) : (Op.stringOp .neq a b).run Tryd.prog W = .ok (.bool true) W := by simp [Op.stringOp, Sem.run_pure, toList_ne h]
theorem str_eql_no (a b : ByteArray) (h : a ≠ b) (W : World) : (Op.stringOp .eql a b).run Tryd.prog W = .ok (.bool false) W := by simp [Op.stringOp, Sem.run_pure, toList_ne h]
/-- what Unbox answers -/
def unboxO (k t : ByteArray) : Option ByteArray := match readP t.data.toList with
  | some x => if x.op = 66 ∧ nth x.kids 0 = k.data.toList then some ⟨(nth x.kids 1).toArray⟩ else none
  | none => none
def unboxV (o : Option ByteArray) : Value := match o with
  | some t => .tuple #[.string t, .bool true]
  | none => .tuple #[.string ⟨#[]⟩, .bool false]
set_option maxRecDepth 100000 in
set_option maxHeartbeats 4000000 in
theorem unbox_none (k t : ByteArray) (w : World) (hm : t.size ≤ maxLen) (hL : LibOk w) (hx : readP t.data.toList = none) : Calls Tryd.prog 29 #[.string k, .string t] w fun e w' => e = .returned (unboxV none) ∧ Below w.heap.size w w' := by
  have HO := Lib.hid (open_any t w hm hL)
  rw [hx] at HO
  clear hx hL
  unfold unboxV
  go_enter Tryd.func29, Tryd.ntmps29
  go_upto_region 2 with (go_at_call 34; (with_reducible refine Calls.mono HO.out ?_); rintro e w1 ⟨hb, hno, _⟩; obtain rfl := hno rfl; have B1 := Lib.hid hb; clear hb hno)
  have B2 : Hid (Below w.heap.size w (w1.alloc (.cells #[.int .u8 0, .int .i64 0, .string ⟨#[]⟩, .slice none 0 0] 36))) := B1.out.alloc B1.out.size _
  have CX : Hid ((w1.alloc (.cells #[.int .u8 0, .int .i64 0, .string ⟨#[]⟩, .slice none 0 0] 36)).heap[w1.heap.size]? = some (.cells #[.int .u8 0, .int .i64 0, .string ⟨#[]⟩, .slice none 0 0] 36 (0, 0))) := heap_alloc_at w1 _
  generalize w1.alloc (.cells #[.int .u8 0, .int .i64 0, .string ⟨#[]⟩, .slice none 0 0] 36) = w2 at B2 CX ⊢
  obtain ⟨xb, hxb⟩ : ∃ xb, w1.heap.size = xb := ⟨_, rfl⟩
  rw [hxb] at CX ⊢
  clear hxb
  have x_0 : w2.cell? ⟨xb, 0, none⟩ = some (.int .u8 0) := by simp [World.cell?, CX.out]
  go_wp2_with fail
  go_ret2
  exact ⟨rfl, B2.out⟩
set_option maxRecDepth 100000 in
set_option maxHeartbeats 4000000 in
theorem unbox_other (k t : ByteArray) (w : World) (x : Sh) (hm : t.size ≤ maxLen) (hL : LibOk w) (hx : readP t.data.toList = some x) (h : x.op ≠ 66) : Calls Tryd.prog 29 #[.string k, .string t] w fun e w' => e = .returned (unboxV none) ∧ Below w.heap.size w w' := by
  have HO := Lib.hid (open_any t w hm hL)
  rw [hx] at HO
  obtain ⟨oz, hoz⟩ : ∃ oz : Int, (x.op.toNat : Int) = oz := ⟨_, rfl⟩
  have ne : ∀ k : UInt8, x.op ≠ k → (x.op.toNat : Int) ≠ (k.toNat : Int) := fun k h h' => h (UInt8.toNat_inj.mp (by omega))
  have b1 : (oz != 66) = true := by rw [bne_iff_ne, ← hoz]; exact ne 66 h
  clear ne h hx hL
  unfold unboxV
  go_enter Tryd.func29, Tryd.ntmps29
  go_upto_region 2 with (go_at_call 34; (with_reducible refine Calls.mono HO.out ?_); rintro e w1 ⟨hb, _, hyes⟩; obtain ⟨u, ko, km, kc, rfl, _, hK⟩ := hyes x rfl; have B1 := Lib.hid hb; clear hb hyes hK)
  have B2 : Hid (Below w.heap.size w (w1.alloc (.cells #[.int .u8 oz, .int .i64 x.n, .string u, .slice ko km kc] 36))) := B1.out.alloc B1.out.size _
  have CX : Hid ((w1.alloc (.cells #[.int .u8 oz, .int .i64 x.n, .string u, .slice ko km kc] 36)).heap[w1.heap.size]? = some (.cells #[.int .u8 oz, .int .i64 x.n, .string u, .slice ko km kc] 36 (0, 0))) := heap_alloc_at w1 _
  generalize w1.alloc (.cells #[.int .u8 oz, .int .i64 x.n, .string u, .slice ko km kc] 36) = w2 at B2 CX ⊢
  obtain ⟨xb, hxb⟩ : ∃ xb, w1.heap.size = xb := ⟨_, rfl⟩
  rw [hxb] at CX ⊢
  clear hxb
  have x_0 : w2.cell? ⟨xb, 0, none⟩ = some (.int .u8 oz) := by simp [World.cell?, CX.out]
  go_wp2_with fail
  go_ret2
  exact ⟨rfl, B2.out⟩
set_option maxRecDepth 100000 in
set_option maxHeartbeats 4000000 in
theorem unbox_66 (k t : ByteArray) (w : World) (x : Sh) (hm : t.size ≤ maxLen) (hL : LibOk w) (hx : readP t.data.toList = some x) (h : x.op = 66) (o : Option ByteArray) (ho : (if nth x.kids 0 = k.data.toList then some (⟨(nth x.kids 1).toArray⟩ : ByteArray) else none) = o) : Calls Tryd.prog 29 #[.string k, .string t] w fun e w' => e = .returned (unboxV o) ∧ Below w.heap.size w w' := by
  have HO := Lib.hid (open_any t w hm hL)
  rw [hx] at HO
  have hz : (x.op.toNat : Int) = 66 := by rw [h]; rfl
  have h2 := read_arity hx 2 (by rw [h]; rfl)
  have HOO := Lib.hid ho
  clear hx hL h ho
  go_enter Tryd.func29, Tryd.ntmps29
  go_upto_region 2 with (go_at_call 34; (with_reducible refine Calls.mono HO.out ?_); rintro e w1 ⟨hb, _, hyes⟩; obtain ⟨u, ko, km, kc, rfl, _, hK⟩ := hyes x rfl; have B1 := Lib.hid hb; have K1 := Lib.hid hK; clear hb hyes hK)
  obtain ⟨k0, k1, g, cap', e0, e1, ev, c0, c1⟩ := two_kids K1.out h2
  cases ev
  have HE : Hid (o = if k0 = k then some k1 else none) := by
    show _ = _
    rw [← HOO.out, ← e0, ← e1]
    by_cases hk : k0 = k
    · rw [if_pos hk, if_pos (by rw [hk])]
    · rw [if_neg hk, if_neg (fun e => hk (ByteArray.ext (Array.toList_inj.1 e)))]
  have B2 : Hid (Below w.heap.size w (w1.alloc (.cells #[.int .u8 66, .int .i64 x.n, .string u, .slice (some ⟨g, 0, none⟩) 2 kc] 36))) := B1.out.alloc B1.out.size _
  have CX : Hid ((w1.alloc (.cells #[.int .u8 66, .int .i64 x.n, .string u, .slice (some ⟨g, 0, none⟩) 2 kc] 36)).heap[w1.heap.size]? = some (.cells #[.int .u8 66, .int .i64 x.n, .string u, .slice (some ⟨g, 0, none⟩) 2 kc] 36 (0, 0))) := heap_alloc_at w1 _
  have d0 := cell_later (below_new' w1 (.cells #[.int .u8 66, .int .i64 x.n, .string u, .slice (some ⟨g, 0, none⟩) 2 kc] 36)) c0
  have d1 := cell_later (below_new' w1 (.cells #[.int .u8 66, .int .i64 x.n, .string u, .slice (some ⟨g, 0, none⟩) 2 kc] 36)) c1
  generalize w1.alloc (.cells #[.int .u8 66, .int .i64 x.n, .string u, .slice (some ⟨g, 0, none⟩) 2 kc] 36) = w2 at B2 CX d0 d1 ⊢
  obtain ⟨xb, hxb⟩ : ∃ xb, w1.heap.size = xb := ⟨_, rfl⟩
  rw [hxb] at CX ⊢
  clear hxb c0 c1 K1 e0 e1
  have x_0 : w2.cell? ⟨xb, 0, none⟩ = some (.int .u8 66) := by simp [World.cell?, CX.out]
  have x_3 : w2.cell? ⟨xb, 3, none⟩ = some (.slice (some ⟨g, 0, none⟩) 2 kc) := by simp [World.cell?, CX.out]
  by_cases hk : k0 = k
  · rw [if_pos hk] at HE
    have q1 : (k0.toList == k.toList) = true := by rw [hk]; simp
    clear hk
    go_wp2_with fail
    go_ret2
    exact ⟨by rw [HE.out]; rfl, B2.out⟩
  · rw [if_neg hk] at HE
    have q1 := toList_ne hk
    clear hk
    go_wp2_with fail
    go_ret2
    exact ⟨by rw [HE.out]; rfl, B2.out⟩
theorem unbox_any (k t : ByteArray) (w : World) (hm : t.size ≤ maxLen) (hL : LibOk w) : Calls Tryd.prog 29 #[.string k, .string t] w fun e w' => e = .returned (unboxV (unboxO k t)) ∧ Below w.heap.size w w' := by
  unfold unboxO
  cases hx : readP t.data.toList with
  | none => exact unbox_none k t w hm hL hx
  | some x =>
    by_cases h : x.op = 66
    · simp only [h, true_and]
      exact unbox_66 k t w x hm hL hx h _ rfl
    · simp only [h, false_and, if_false]
      exact unbox_other k t w x hm hL hx h
end Go.Proofs.YtlheoipengndnabDoor
