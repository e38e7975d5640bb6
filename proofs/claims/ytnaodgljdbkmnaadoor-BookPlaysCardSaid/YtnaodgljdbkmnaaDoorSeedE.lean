/- seed: Add, walked. -/
import Derived.Test.YtnaodgljdbkmnaaDoorSeedD
import Derived.Laws.Rows
namespace Go.Proofs.YtnaodgljdbkmnaaDoor
set_option linter.unusedVariables false
open Go.RowKit
theorem bcell {w w1 : World} {B : Nat} (hb : Below B w w1) : (∀ b o, b < B → w1.cell? ⟨b, o, none⟩ = w.cell? ⟨b, o, none⟩) ∧ (∀ b o, b < B → w1.frozen? ⟨b, o, none⟩ = w.frozen? ⟨b, o, none⟩) :=
  ⟨fun b o h => hb.cell (p := ⟨b, o, none⟩) h, fun b o h => hb.frozen (p := ⟨b, o, none⟩) h⟩
theorem str_neq_self (a : ByteArray) (W : World) : (Op.stringOp .neq a a).run Tryd.prog W = .ok (.bool false) W := by simp [Op.stringOp, Sem.run_pure]
theorem str_eql_self (a : ByteArray) (W : World) : (Op.stringOp .eql a a).run Tryd.prog W = .ok (.bool true) W := by simp [Op.stringOp, Sem.run_pure]
theorem toList_ne {a b : ByteArray} (h : a ≠ b) : (a.toList == b.toList) = false := by
  rw [beq_eq_false_iff_ne]
  intro e
  apply h
  have ea := extract_list a 0 a.size
  have eb := extract_list b 0 b.size
  simp only [ByteArray.extract_zero_size, List.drop_zero, Nat.sub_zero] at ea eb
  rw [ea, eb] at e
  rw [List.take_of_length_le (by rw [list_size]; exact Nat.le_refl _), List.take_of_length_le (by rw [list_size]; exact Nat.le_refl _)] at e
  exact ByteArray.ext (Array.toList_inj.1 e)
theorem str_neq (a b : ByteArray) (h : a ≠ b) (W : World) : (Op.stringOp .neq a b).run Tryd.prog W = .ok (.bool true) W := by simp [Op.stringOp, Sem.run_pure, toList_ne h]
theorem str_eql_no (a b : ByteArray) (h : a ≠ b) (W : World) : (Op.stringOp .eql a b).run Tryd.prog W = .ok (.bool false) W := by simp [Op.stringOp, Sem.run_pure, toList_ne h]
theorem ba_ne {a b : List UInt8} (h : a ≠ b) : (⟨a.toArray⟩ : ByteArray) ≠ ⟨b.toArray⟩ := fun e => h (by have := congrArg (fun x : ByteArray => x.data.toList) e; simpa using this)
def AddOk (g : Nat → Spot) (t : List UInt8) (k : Nat) : Prop := ∀ b, b < k → ∀ p v, g b = some (p, v) → onO t p k = some v
def newG (g : Nat → Spot) (k i : Nat) (t : List UInt8) : Nat → Spot := fun b => if b = k then some (i, t) else if b < k then none else g b
def Only (sb : Nat) : Nat → Prop := fun x => x = sb
theorem spot_none {x : Spot} (h : x = none) : spotL x = [.int .i64 0, .string ⟨#[]⟩, .bool false] := by rw [h]; rfl
theorem spot_some {x : Spot} {p : Nat} {t : List UInt8} (h : x = some (p, t)) : spotL x = [.int .i64 p, .string ⟨t.toArray⟩, .bool true] := by rw [h]; rfl
theorem spot_cells {w : World} {sb : Nat} {g : Nat → Spot} {n b : Nat} (h : StAt w sb g n) (hb : b < 21) {a0 a1 a2 : Value} (hx : spotL (g b) = [a0, a1, a2]) :
    w.cell? ⟨sb, b * 3, none⟩ = some a0 ∧ w.cell? ⟨sb, b * 3 + 1, none⟩ = some a1 ∧ w.cell? ⟨sb, b * 3 + 2, none⟩ = some a2 := by
  refine ⟨?_, ?_, ?_⟩
  · have := h.cell hb (j := 0) (by omega); rw [hx] at this; exact this
  · have := h.cell hb (j := 1) (by omega); rw [hx] at this; exact this
  · have := h.cell hb (j := 2) (by omega); rw [hx] at this; exact this
theorem slice_spots (sb k : Nat) (hk : k ≤ 21) (W : World) : (Instr.sliceAt 83 (.pointer (some ⟨sb, 0, none⟩)) none (some (.int .i64 k)) none).run Tryd.prog W = .ok (.slice (some ⟨sb, 0, none⟩) k 21) W := by
  have ha : Tryd.prog.arrayLen 83 = 21 := by kernel_rfl
  have hs : (sizeOf (Tryd.prog.elem 83)).run Tryd.prog W = .ok 3 W := by kernel_rfl
  rw [run_sliceAt_array_h W 83 ⟨sb, 0, none⟩ (by kernel_rfl) .i64 (k : Int) (by omega) (by rw [ha]; omega), hs, ha]
  simp [Result.andThen, slicedAt, Addr.add]
set_option maxRecDepth 100000 in
set_option maxHeartbeats 4000000 in
theorem add_arg (sb : Nat) (g : Nat → Spot) (n : Nat) (w : World) (h : StAt w sb g n) (hn : n ≤ 1048576) (i : Int) (t : ByteArray) (hi : i < 0 ∨ i ≠ 1048575 - n) : Calls Tryd.prog 17 #[.pointer (some ⟨sb, 0, none⟩), .int .i64 i, .string t] w fun e w' => e = .returned (.int .i64 2) ∧ Below w.heap.size w w' := by
  have hc := h.cellN
  clear h
  by_cases h0 : i < 0
  · go_enter Tryd.func17, Tryd.ntmps17
    go_wp2_with fail
    go_ret
    exact ⟨rfl, Below.refl _ _⟩
  · have h1 : i ≠ 1048575 - n := hi.resolve_left h0
    have h1b : (i != 1048575 - (n : Int)) = true := by simpa using h1
    have h0' : 0 ≤ i := by omega
    clear hi
    go_enter Tryd.func17, Tryd.ntmps17
    go_wp2_with fail
    go_ret
    exact ⟨rfl, Below.refl _ _⟩
set_option maxRecDepth 100000 in
set_option maxHeartbeats 4000000 in
theorem add_term (sb : Nat) (g : Nat → Spot) (n : Nat) (w : World) (h : StAt w sb g n) (hn : n ≤ 1048576) (i : Int) (t : ByteArray) (h0 : 0 ≤ i) (h1 : i = 1048575 - n) (ht : t.size ≤ maxLen) (hr : rt t = false) (hL : LibOk w) : Calls Tryd.prog 17 #[.pointer (some ⟨sb, 0, none⟩), .int .i64 i, .string t] w fun e w' => e = .returned (.int .i64 10) ∧ Below w.heap.size w w' := by
  have hc := h.cellN
  have HR : Hid (Calls Tryd.prog 42 #[.string t] w fun e w' => e = .returned (.bool false) ∧ Below w.heap.size w w') := by
    have := right_any t w ht hL
    rw [show rightB t.data.toList = false from hr] at this
    exact this
  clear h hL hr ht
  have h1b : (i != 1048575 - (n : Int)) = false := by simpa using h1
  clear h1
  go_enter Tryd.func17, Tryd.ntmps17
  go_wp2_with (go_at_call 42; (with_reducible refine Calls.mono HR.out ?_); rintro e w1 ⟨rfl, hb1⟩; have B1 := Lib.hid hb1; clear hb1)
  go_ret
  exact ⟨rfl, B1.out⟩
def AddPost (sb : Nat) (g : Nat → Spot) (n i k : Nat) (t : List UInt8) (w : World) (e : Ending) (w' : World) : Prop :=
  (e = .returned (.int .i64 150) ∧ ¬ AddOk g t k ∧ Below w.heap.size w w') ∨
  (e = .returned (.int .i64 0) ∧ AddOk g t k ∧ StAt w' sb (newG g k i t) (n + 1) ∧ Fr (Only sb) w w')
set_option maxRecDepth 100000 in
set_option maxHeartbeats 8000000 in
theorem add_walk (sb : Nat) (g : Nat → Spot) (n : Nat) (w : World) (h : StAt w sb g n) (i : Nat) (t : ByteArray) (hi : (i : Int) = 1048575 - n) (hg : ∀ b p v, g b = some (p, v) → p ≤ 1048575) (ht : rt t = true) (hL : LibOk w) (hT : Tab w) (hD : Bru w) : Calls Tryd.prog 17 #[.pointer (some ⟨sb, 0, none⟩), .int .i64 i, .string t] w (AddPost sb g n i (lowP i) t.data.toList w) := by
  have hc := h.cellN
  have HS := Lib.hid h
  have HL := Lib.hid hL
  have HT := Lib.hid hT
  have HG := Lib.hid hg
  have HR : Hid (Calls Tryd.prog 42 #[.string t] w fun e w' => e = .returned (.bool true) ∧ Below w.heap.size w w') := by
    have := right_any t w (by have := right_size ht; unfold maxLen; omega) hL
    rw [show rightB t.data.toList = true from ht] at this
    exact this
  have hk := low_le i
  have HLO : Hid (∀ W, Bru W → Calls Tryd.prog 46 #[.int .i64 i] W fun e w' => e = .returned (.int .i64 (lowP i)) ∧ w' = W) := fun W hW => low_any i W (by omega) hW
  generalize lowP i = k at HLO hk ⊢
  have HD := Lib.hid hD
  have HON : Hid (∀ W p, LibOk W → Tab W → p ≤ 1048575 → Calls Tryd.prog 43 #[.string t, .int .i64 (p : Nat), .int .i64 k] W fun e w' => e = .returned (onV t.data.toList p k) ∧ Below W.heap.size W w') := fun W p hL hT hp => on_any t p k W ht (by omega) hk hL hT
  clear h hL hT hD hg ht
  have hib : ((i : Int) != 1048575 - (n : Int)) = false := by simpa using hi
  have hi9 : i ≤ 1048575 := by omega
  have hn9 : n ≤ 1048575 := by omega
  have HI := Lib.hid hi
  clear hi
  go_enter Tryd.func17, Tryd.ntmps17
  go_upto_region 9 with (first
    | (go_at_call 42; (with_reducible refine Calls.mono HR.out ?_); rintro e w1 ⟨rfl, hb1⟩; have B1 := Lib.hid hb1; clear hb1)
    | (go_at_call 46; (with_reducible refine Calls.mono (HLO.out _ (HD.out.below B1.out)) ?_); rintro e w2 ⟨rfl, rfl⟩))
  have hk21 : (k : Int) ≤ 20 := by omega
  have hsl := slice_spots sb k (by omega)
  go_wp2_with fail
  go_loopw [38] (fun bv wr => ∃ b : Nat, b ≤ k ∧ bv = .int .i64 b ∧ Hid (Below w.heap.size w wr) ∧ Hid (∀ c, c < b → ∀ p v, g c = some (p, v) → onO t.data.toList p k = some v)) (fun bv _ => k - (intOf bv).toNat)
  case atStart => exact ⟨0, Nat.zero_le _, rfl, B1.out, fun c hc => by omega⟩
  case round =>
    obtain ⟨b, hb, rfl, hB, hO⟩ := hrel
    have hBs := hB.out.size
    by_cases hlt : b < k
    · have hbk : (b : Int) < (k : Int) := by omega
      have hb21 : b < 21 := by omega
      have hW := HS.out.below hB.out
      cases hgb : g b with
      | none =>
        obtain ⟨q0, q1, q2⟩ := spot_cells hW hb21 (spot_none hgb)
        clear hW
        go_wp2_with fail
        go_roundw
        case rel => exact ⟨b + 1, by omega, by go_num, hB.out.alloc hBs _, fun c hc p v hp => by
          rcases Nat.lt_or_ge c b with h | h
          · exact hO.out c h p v hp
          · obtain rfl : c = b := by omega
            rw [hgb] at hp; cases hp⟩
        case measure => (simp [intOf] <;> omega)
      | some pv =>
        obtain ⟨p, v⟩ := pv
        obtain ⟨q0, q1, q2⟩ := spot_cells hW hb21 (spot_some hgb)
        have hp9 := HG.out b p v hgb
        clear hW
        have B2 := Lib.hid (hB.out.alloc hBs (.cells #[.int .i64 p, .string ⟨v.toArray⟩, .bool true] 82))
        have HC := Lib.hid (HON.out _ p (HL.out.below B2.out) (HT.out.below B2.out) hp9)
        unfold onV at HC
        cases ho : onO t.data.toList p k with
        | none =>
          rw [ho] at HC
          go_wp2_with (go_at_call 43; (with_reducible refine Calls.mono HC.out ?_); rintro e w3 ⟨rfl, hb3⟩; have B3 := Lib.hid (B2.out.trans (hb3.mono B2.out.size)); obtain ⟨hc3, hf3⟩ := bcell hb3; clear hb3)
          go_ret
          exact .inl ⟨rfl, (fun hA => by have := hA b hlt p v hgb; rw [ho] at this; cases this), B3.out⟩
        | some y =>
          rw [ho] at HC
          by_cases hy : y = v
          · subst hy
            go_wp2_with (go_at_call 43; (with_reducible refine Calls.mono HC.out ?_); rintro e w3 ⟨rfl, hb3⟩; have B3 := Lib.hid (B2.out.trans (hb3.mono B2.out.size)); obtain ⟨hc3, hf3⟩ := bcell hb3; clear hb3)
            go_roundw
            case rel => exact ⟨b + 1, by omega, by go_num, B3.out, fun c hc p' v' hp => by
              rcases Nat.lt_or_ge c b with h | h
              · exact hO.out c h p' v' hp
              · obtain rfl : c = b := by omega
                rw [hgb] at hp; cases hp; exact ho⟩
            case measure => (simp [intOf] <;> omega)
          · have hyl := toList_ne (ba_ne hy)
            have hyn := str_neq _ _ (ba_ne hy)
            have hy1 : (y == v) = false := by simpa using hy
            have hy2 : (y != v) = true := by simpa using hy
            go_wp2_with (go_at_call 43; (with_reducible refine Calls.mono HC.out ?_); rintro e w3 ⟨rfl, hb3⟩; have B3 := Lib.hid (B2.out.trans (hb3.mono B2.out.size)); obtain ⟨hc3, hf3⟩ := bcell hb3; clear hb3)
            go_ret
            exact .inl ⟨rfl, (fun hA => by have := hA b hlt p v hgb; rw [ho] at this; exact hy (Option.some.inj this)), B3.out⟩
    · obtain rfl : b = k := by omega
      have hAO := Lib.hid (show AddOk g t.data.toList b from fun c hc p v hp => hO.out c hc p v hp)
      have HW := Lib.hid (HS.out.below hB.out)
      have HB := Lib.hid hB.out
      clear hO hB
      go_wp2_with fail
      go_loopw [63] (fun cv wr => ∃ c : Nat, c ≤ b ∧ cv = .int .i64 c ∧ Hid (StAt wr sb (fun x => if x < c then none else g x) n) ∧ Hid (Fr (Only sb) w wr)) (fun cv _ => b - (intOf cv).toNat)
      case atStart => exact ⟨0, Nat.zero_le _, rfl, Lib.hid (by have := HW.out; simpa using this), Fr.below HB.out⟩
      case round =>
        obtain ⟨c, hc, rfl, hS, hF⟩ := hrel
        have hFs := hF.out.size
        by_cases hlt2 : c < b
        · have hcb : (c : Int) < (b : Int) := by omega
          have hc21 : c < 21 := by omega
          have hci : (c : Int) < 21 := by omega
          have f0 := hS.out.frozen (c * 3)
          have f1 := hS.out.frozen (c * 3 + 1)
          have f2 := hS.out.frozen (c * 3 + 2)
          obtain ⟨a0, a1, a2, ha⟩ : ∃ a0 a1 a2, spotL ((fun x => if x < c then none else g x) c) = [a0, a1, a2] := by
            rcases hx : (fun x => if x < c then none else g x) c with _ | ⟨p, v⟩
            · exact ⟨_, _, _, rfl⟩
            · exact ⟨_, _, _, rfl⟩
          obtain ⟨q0, q1, q2⟩ := spot_cells hS.out hc21 ha
          clear ha
          go_wp2_with fail
          go_roundw
          case rel =>
            refine ⟨c + 1, by omega, by go_num, ?_, ((hF.out.set sb _ _ rfl).set sb _ _ rfl).set sb _ _ rfl⟩
            have := hS.out.set hc21 none _ _ _ rfl
            refine (show (fun x => if x = c then none else if x < c then none else g x) = (fun x => if x < c + 1 then none else g x) from ?_) ▸ this
            funext x
            by_cases h1 : x = c
            · rw [if_pos h1, if_pos (by omega)]
            · rw [if_neg h1]
              by_cases h2 : x < c
              · rw [if_pos h2, if_pos (by omega)]
              · rw [if_neg h2, if_neg (by omega)]
          case measure => (simp [intOf] <;> omega)
        · obtain rfl : c = b := by omega
          have hc21 : c < 21 := by omega
          have hci : (c : Int) < 21 := by omega
          have f0 := hS.out.frozen (c * 3)
          have f1 := hS.out.frozen (c * 3 + 1)
          have f2 := hS.out.frozen (c * 3 + 2)
          obtain ⟨a0, a1, a2, ha⟩ : ∃ a0 a1 a2, spotL ((fun x => if x < c then none else g x) c) = [a0, a1, a2] := by
            rcases hx : (fun x => if x < c then none else g x) c with _ | ⟨p, v⟩
            · exact ⟨_, _, _, rfl⟩
            · exact ⟨_, _, _, rfl⟩
          obtain ⟨q0, q1, q2⟩ := spot_cells hS.out hc21 ha
          clear ha hlt hlt2
          go_upto_region 23 with fail
          have S5 := Lib.hid (hS.out.set hc21 (some (i, t.data.toList)) (.int .i64 i) (.string t) (.bool true) (by show [Value.int .i64 i, .string ⟨t.data.toList.toArray⟩, .bool true] = _; rw [ba_back]))
          have F5 := Lib.hid (((hF.out.set sb (c * 3) (.int .i64 i) rfl).set sb (c * 3 + 1) (.string t) rfl).set sb (c * 3 + 2) (.bool true) rfl)
          generalize ((wr.setCell ⟨sb, c * 3, none⟩ (.int .i64 i)).setCell ⟨sb, c * 3 + 1, none⟩ (.string t)).setCell ⟨sb, c * 3 + 2, none⟩ (.bool true) = w5 at S5 F5 ⊢
          have hc5 := S5.out.cellN
          have hf5 := S5.out.frozen 63
          clear q0 q1 q2 f0 f1 f2
          go_wp2_with fail
          go_ret
          exact .inr ⟨rfl, hAO.out, S5.out.setN (n + 1), F5.out.set sb _ _ rfl⟩
end Go.Proofs.YtnaodgljdbkmnaaDoor
