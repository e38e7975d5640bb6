/- term: TermOpens. -/
import Derived.Test.YtlheoipengndnabGreatDoorWa
import Derived.Test.YtlheoipengndnabGreatDoorSame
import Derived.Test.YtlheoipengndnabGreatDoorVa
namespace Go.Proofs.YtlheoipengndnabGreatDoor
set_option linter.unusedVariables false
open Go.RowKit
theorem kids_strs {B : Nat} {o : Option Addr} {m c : Nat} {ks : List (List UInt8)} {w : World} (h : KidsAt B (.slice o m c) ks w) :
    ks.length = m ∧ StrsAt o (ks.map fun k => (⟨k.toArray⟩ : ByteArray)) w := by
  obtain ⟨vs, hvs, hown⟩ := h
  have e : (ks.map fun k => (⟨k.toArray⟩ : ByteArray)) = vs := by
    rw [← hvs, List.map_map]
    have : ((fun k : List UInt8 => (⟨k.toArray⟩ : ByteArray)) ∘ fun v : ByteArray => v.data.toList) = id := by
      funext v; apply ByteArray.ext; simp
    rw [this, List.map_id]
  rw [e, ← hvs, List.length_map]
  rcases Nat.eq_zero_or_pos vs.length with h0 | hpos
  · obtain rfl := List.length_eq_zero_iff.1 h0
    refine ⟨?_, .inl rfl⟩
    rcases hown.2 with ⟨h, _⟩ | ⟨g, cap, cur, h, _⟩
    · cases h; rfl
    · cases h; rfl
  · obtain ⟨g, cap, e1, _, e3⟩ := own_cells hown hpos
    cases e1
    exact ⟨rfl, .inr ⟨g, 0, rfl, fun k s hk => by rw [Nat.zero_add]; exact e3 k _ (by rw [List.getElem?_map, hk]; rfl)⟩⟩
set_option maxRecDepth 100000 in
set_option maxHeartbeats 4000000 in
theorem opens_long (t : ByteArray) (w : World) (hm : t.size ≤ maxLen) (h : 20000 < t.size) : Calls Tryz.prog 5 #[.string t] w fun e w' => e = .returned (.bool true) ∧ Below w.heap.size w w' := by
  have hi : (20000 : Int) < (t.size : Int) := by omega
  go_enter Tryz.func5, Tryz.ntmps5
  go_wp2
  go_ret
  exact ⟨rfl, Below.refl _ _⟩
/-- an opened term's four cells, and whether it was right -/
structure Op4 where
  op : Nat
  n : Nat
  u : ByteArray
  vs : List ByteArray
  b : Bool
def op4 (l : List UInt8) : Op4 := match readP l with
  | some x => ⟨x.op.toNat, x.n, ⟨x.text.toArray⟩, x.kids.map fun k => (⟨k.toArray⟩ : ByteArray), true⟩
  | none => ⟨0, 0, ⟨#[]⟩, [], false⟩
def OneForm (q : Op4) (w : World) (e : Ending) (w' : World) : Prop :=
  Below w.heap.size w w' ∧ ∃ o k, e = .returned (.tuple #[.agg #[.int .u8 q.op, .int .i64 q.n, .string q.u, .slice o q.vs.length k], .bool q.b]) ∧ StrsAt o q.vs w'
theorem one_form {l : List UInt8} {w w' : World} {e : Ending} (h : OpenPost (readP l) w e w') : OneForm (op4 l) w e w' := by
  obtain ⟨hb, hno, hyes⟩ := h
  refine ⟨hb, ?_⟩
  unfold op4
  cases hx : readP l with
  | none => exact ⟨none, 0, hno hx, .inl rfl⟩
  | some x =>
    obtain ⟨u, ko, km, kc, rfl, hu, hK⟩ := hyes x hx
    obtain ⟨h1, h2⟩ := kids_strs hK
    refine ⟨ko, kc, ?_, h2⟩
    simp only [List.length_map]
    rw [h1, ← hu]
set_option maxRecDepth 100000 in
set_option maxHeartbeats 4000000 in
theorem opens_short (t : ByteArray) (w : World) (h : t.size ≤ 20000) (hL : LibOk w) (hT : Tab w) (hb0 : (op4 t.data.toList).b = rightB t.data.toList) (hvm : (op4 t.data.toList).vs.length ≤ maxLen) : Calls Tryz.prog 5 #[.string t] w fun e w' => e = .returned (.bool true) ∧ Below w.heap.size w w' := by
  have hi : ¬ (20000 : Int) < (t.size : Int) := by omega
  have hm : t.size ≤ maxLen := by unfold maxLen; omega
  have HO : Hid (Calls Tryz.prog 17 #[.string t] w (OneForm (op4 t.data.toList) w)) := (open_any t w hm hL).mono fun _ _ h => one_form h
  have HP : Hid (∀ W, Calls Tryz.prog 18 #[.string t] W (OneForm (op4 t.data.toList) W)) := fun W => (ropen_any t W hm).mono fun _ _ h => one_form h
  have HR := Lib.hid (fun W (h : LibOk W) => right_any t W hm h)
  have HZ := Lib.hid (fun W (h : LibOk W) => size_any t W hm h)
  have HZ' := Lib.hid (fun W => rsize_any t W hm)
  have HD := Lib.hid (fun W (h : LibOk W) => deep_any t W hm h)
  have HD' := Lib.hid (fun W => rdeep_any t W hm)
  have HW := Lib.hid (fun W (h : LibOk W) (k : Tab W) => works_any W h k)
  have HL := Lib.hid hL
  have HT := Lib.hid hT
  rw [← hb0] at HR
  generalize (if rightB t.data.toList = true then t.size else 0) = z at HZ HZ'
  generalize deepN t.data.toList = d at HD HD'
  have HB0 := Lib.hid hb0
  generalize op4 t.data.toList = q at HO HP HR hvm HB0
  obtain ⟨op, n, u, vs, b⟩ := q
  obtain ⟨m, hmm⟩ : ∃ m, vs.length = m := ⟨_, rfl⟩
  have HM := Lib.hid hmm
  clear hb0 HB0 hmm hL hT h
  go_enter Tryz.func5, Tryz.ntmps5
  go_upto_region 5 with (go_at_call 17; (with_reducible refine Calls.mono HO.out ?_); rintro e w1 ⟨hb, o1, k1, rfl, hs⟩; have B1 := Lib.hid hb; have S1 := Lib.hid hs; clear hb hs)
  have B2 : Hid (Below w.heap.size w (w1.alloc (.cells #[.int .u8 op, .int .i64 n, .string u, .slice o1 vs.length k1] 39))) := B1.out.alloc B1.out.size _
  have CX : Hid ((w1.alloc (.cells #[.int .u8 op, .int .i64 n, .string u, .slice o1 vs.length k1] 39)).heap[w1.heap.size]? = some (.cells #[.int .u8 op, .int .i64 n, .string u, .slice o1 vs.length k1] 39 (0, 0))) := heap_alloc_at w1 _
  have S2 : Hid (StrsAt o1 vs (w1.alloc (.cells #[.int .u8 op, .int .i64 n, .string u, .slice o1 vs.length k1] 39))) := S1.out.below (below_new' w1 _)
  generalize w1.alloc (.cells #[.int .u8 op, .int .i64 n, .string u, .slice o1 vs.length k1] 39) = w2 at B2 CX S2 ⊢
  obtain ⟨xb, hxb⟩ : ∃ xb, w1.heap.size = xb := ⟨_, rfl⟩
  rw [hxb] at CX ⊢
  clear hxb S1
  go_upto_region 6 with (go_at_call 18; (with_reducible refine Calls.mono (HP.out _) ?_); rintro e w3 ⟨hb, o2, k2, rfl, hs⟩; have B3 : Hid (Below w.heap.size w w3) := B2.out.trans (hb.mono B2.out.size); have B23 := Lib.hid hb; have T3 := Lib.hid hs; clear hb hs)
  have hx3 : xb < w2.heap.size := (Array.getElem?_eq_some_iff.1 CX.out).1
  have B4 : Hid (Below w.heap.size w (w3.alloc (.cells #[.int .u8 op, .int .i64 n, .string u, .slice o2 vs.length k2] 39))) := B3.out.alloc B3.out.size _
  have CX4 : Hid ((w3.alloc (.cells #[.int .u8 op, .int .i64 n, .string u, .slice o2 vs.length k2] 39)).heap[xb]? = some (.cells #[.int .u8 op, .int .i64 n, .string u, .slice o1 vs.length k1] 39 (0, 0))) := (Below.heap_alloc w3 _ xb (Nat.lt_of_lt_of_le hx3 B23.out.size)).trans ((B23.out.block xb hx3).trans CX.out)
  have CY4 : Hid ((w3.alloc (.cells #[.int .u8 op, .int .i64 n, .string u, .slice o2 vs.length k2] 39)).heap[w3.heap.size]? = some (.cells #[.int .u8 op, .int .i64 n, .string u, .slice o2 vs.length k2] 39 (0, 0))) := heap_alloc_at w3 _
  have S4 : Hid (StrsAt o1 vs (w3.alloc (.cells #[.int .u8 op, .int .i64 n, .string u, .slice o2 vs.length k2] 39))) := (S2.out.below B23.out).below (below_new' w3 _)
  have T4 : Hid (StrsAt o2 vs (w3.alloc (.cells #[.int .u8 op, .int .i64 n, .string u, .slice o2 vs.length k2] 39))) := T3.out.below (below_new' w3 _)
  generalize w3.alloc (.cells #[.int .u8 op, .int .i64 n, .string u, .slice o2 vs.length k2] 39) = w4 at B4 CX4 CY4 S4 T4 ⊢
  obtain ⟨yb, hyb⟩ : ∃ yb, w3.heap.size = yb := ⟨_, rfl⟩
  rw [hyb] at CY4 ⊢
  clear hyb
  have x_0 : w4.cell? ⟨xb, 0, none⟩ = some (.int .u8 op) := by simp [World.cell?, CX4.out]
  have x_1 : w4.cell? ⟨xb, 1, none⟩ = some (.int .i64 n) := by simp [World.cell?, CX4.out]
  have x_2 : w4.cell? ⟨xb, 2, none⟩ = some (.string u) := by simp [World.cell?, CX4.out]
  have x_3 : w4.cell? ⟨xb, 3, none⟩ = some (.slice o1 vs.length k1) := by simp [World.cell?, CX4.out]
  have y_0 : w4.cell? ⟨yb, 0, none⟩ = some (.int .u8 op) := by simp [World.cell?, CY4.out]
  have y_1 : w4.cell? ⟨yb, 1, none⟩ = some (.int .i64 n) := by simp [World.cell?, CY4.out]
  have y_2 : w4.cell? ⟨yb, 2, none⟩ = some (.string u) := by simp [World.cell?, CY4.out]
  have y_3 : w4.cell? ⟨yb, 3, none⟩ = some (.slice o2 vs.length k2) := by simp [World.cell?, CY4.out]
  have HS := Lib.hid (same_any op n u o1 o2 vs.length k1 k2 vs w4 rfl hvm S4.out T4.out)
  have L4 := Lib.hid (HL.out.below B4.out)
  go_wp2_with (first
    | (go_at_call 19; (with_reducible refine Calls.mono HS.out ?_); rintro e w5 ⟨rfl, hb⟩; have B5 : Hid (Below w.heap.size w w5) := B4.out.trans (hb.mono B4.out.size); have L5 := Lib.hid (HL.out.below B5.out); clear hb)
    | (go_at_call 6; (with_reducible refine Calls.mono (HR.out _ L5.out) ?_); rintro e w6 ⟨rfl, hb⟩; have B6 : Hid (Below w.heap.size w w6) := B5.out.trans (hb.mono B5.out.size); have L6 := Lib.hid (HL.out.below B6.out); clear hb)
    | (go_at_call 20; (with_reducible refine Calls.mono (HZ.out _ L6.out) ?_); rintro e w7 ⟨rfl, hb⟩; have B7 : Hid (Below w.heap.size w w7) := B6.out.trans (hb.mono B6.out.size); have L7 := Lib.hid (HL.out.below B7.out); clear hb)
    | (go_at_call 21; (with_reducible refine Calls.mono (HZ'.out _) ?_); rintro e w8 ⟨rfl, hb⟩; have B8 : Hid (Below w.heap.size w w8) := B7.out.trans (hb.mono B7.out.size); have L8 := Lib.hid (HL.out.below B8.out); clear hb)
    | (go_at_call 22; (with_reducible refine Calls.mono (HD.out _ L8.out) ?_); rintro e w9 ⟨rfl, hb⟩; have B9 : Hid (Below w.heap.size w w9) := B8.out.trans (hb.mono B8.out.size); have L9 := Lib.hid (HL.out.below B9.out); clear hb)
    | (go_at_call 23; (with_reducible refine Calls.mono (HD'.out _) ?_); rintro e w10 ⟨rfl, hb⟩; have B10 : Hid (Below w.heap.size w w10) := B9.out.trans (hb.mono B9.out.size); have L10 := Lib.hid (HL.out.below B10.out); clear hb)
    | (go_at_call 12; (with_reducible refine Calls.mono (HW.out _ L10.out (HT.out.below B10.out)) ?_); rintro e w11 ⟨rfl, hb⟩; have B11 : Hid (Below w.heap.size w w11) := B10.out.trans (hb.mono B10.out.size); clear hb))
  go_ret
  exact ⟨rfl, B11.out⟩
theorem opens_any (t : ByteArray) (w : World) (hm : t.size ≤ maxLen) (hL : LibOk w) (hT : Tab w) : Calls Tryz.prog 5 #[.string t] w fun e w' => e = .returned (.bool true) ∧ Below w.heap.size w w' := by
  rcases Nat.lt_or_ge 20000 t.size with h | h
  · exact opens_long t w hm h
  · refine opens_short t w h hL hT ?_ ?_
    · unfold op4 rightB
      cases readP t.data.toList <;> rfl
    · unfold op4
      cases hx : readP t.data.toList with
      | none => exact Nat.zero_le _
      | some x =>
        obtain ⟨hp, hl⟩ := read_parse hx
        obtain ⟨_, ⟨c, e⟩, _⟩ := parse_kids (R := 63) hp
        have h1 := flat_ge x.kids (kids_ne hp)
        have h2 := congrArg List.length e
        rw [List.length_cons, List.length_append, List.length_append] at h2
        simp only [List.length_map]
        unfold maxLen; omega
end Go.Proofs.YtlheoipengndnabGreatDoor
