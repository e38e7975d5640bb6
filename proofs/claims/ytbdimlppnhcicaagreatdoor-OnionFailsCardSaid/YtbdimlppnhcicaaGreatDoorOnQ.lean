/- rows of terms compared, lent -/
import Derived.Test.YtbdimlppnhcicaaGreatDoorOnO
import Derived.Laws.AppendOwnNone
namespace Go.Proofs.YtbdimlppnhcicaaGreatDoor
set_option linter.unusedVariables false
open Go.RowKit
/-! onion: rows of terms compared, lent; layers compared -/
set_option maxRecDepth 100000 in
set_option maxHeartbeats 4000000 in
theorem sterms_any (oa : Option Addr) (A : List ByteArray) (ca : Nat) (ob : Option Addr) (B : List ByteArray) (cb : Nat) (w : World) (hA : StrsAt oa A w) (hB : StrsAt ob B w) (hAl : A.length ≤ 9223372036854775806) (hBl : B.length ≤ 9223372036854775806) :
    Calls Tryz.prog 57 #[.slice oa A.length ca, .slice ob B.length cb] w fun e w' => e = .returned (.bool (decide (A = B))) ∧ Below w.heap.size w w' := by
  have HA := Lib.hid hA
  have HB := Lib.hid hB
  obtain ⟨d, hd⟩ : ∃ d, decide (A = B) = d := ⟨_, rfl⟩
  have HD := Lib.hid hd
  rw [hd]
  clear hA hB hd
  by_cases hl : A.length = B.length
  · have hli : (A.length : Int) = (B.length : Int) := by omega
    have hlb : ((A.length : Int) == (B.length : Int)) = true := by simp [hl]
    have HL := Lib.hid hl
    go_enter Tryz.func57, Tryz.ntmps57
    go_wp2
    go_loopw [5] (fun iv wr => ∃ i : Nat, i ≤ A.length ∧ iv = .int .i64 i ∧ Hid (A.take i = B.take i) ∧ Hid (Below w.heap.size w wr)) (fun iv _ => A.length - (intOf iv).toNat)
    case atStart => exact ⟨0, Nat.zero_le _, rfl, by show A.take 0 = B.take 0; simp, Below.refl _ _⟩
    case round =>
      obtain ⟨i, hi, rfl, ht, hBl⟩ := hrel
      by_cases hlt : i < A.length
      · obtain ⟨x, hx⟩ : ∃ x, A[i]? = some x := ⟨_, List.getElem?_eq_getElem hlt⟩
        obtain ⟨y, hy⟩ : ∃ y, B[i]? = some y := ⟨_, List.getElem?_eq_getElem (by have := HL.out; omega)⟩
        have hne : A ≠ [] := by intro h; rw [h] at hlt; simp at hlt
        have hne2 : B ≠ [] := by intro h; have := HL.out; rw [h] at this; simp at this; exact hne this
        obtain ⟨ab, af, rfl, ha⟩ := (HA.out.below hBl.out).resolve_left hne
        obtain ⟨bb, bf, rfl, hb⟩ := (HB.out.below hBl.out).resolve_left hne2
        have a0 := ha i x hx
        have b0 := hb i y hy
        have hii : (i : Int) < (A.length : Int) := by omega
        have hii2 : (i : Int) < (B.length : Int) := by omega
        clear ha hb
        by_cases he : x = y
        · subst he
          have HT : Hid (A.take (i + 1) = B.take (i + 1)) := by show _ = _; rw [List.take_add_one, List.take_add_one, hx, hy, ht.out]
          clear hx hy ht
          go_wp2_with fail
          go_quiet (fail)
          go_wp2_with fail
          go_roundw
          case rel => exact ⟨i + 1, by omega, by go_num, HT.out, below_drewN hBl.out _⟩
          case measure => simp [intOf]; omega
        · have q1 := toList_ne he
          have HN : Hid (d = false) := by
            show _ = _
            rw [← HD.out, decide_eq_false]
            intro h
            rw [h, hy] at hx
            exact he (Option.some.inj hx).symm
          clear hx hy ht
          go_wp2_with fail
          go_quiet (fail)
          go_wp2_with fail
          go_ret
          exact ⟨by rw [HN.out]; rfl, below_drewN hBl.out _⟩
      · obtain rfl : i = A.length := by omega
        have HN : Hid (d = true) := by
          show _ = _
          rw [← HD.out, decide_eq_true]
          have := ht.out
          rwa [List.take_length, HL.out, List.take_length] at this
        clear ht
        go_wp2_with fail
        go_ret
        exact ⟨by rw [HN.out]; rfl, hBl.out⟩
  · have hlb : ((A.length : Int) == (B.length : Int)) = false := by simp; omega
    have hli : ¬ ((A.length : Int) = (B.length : Int)) := by omega
    have HN : Hid (d = false) := by
      show _ = _
      rw [← HD.out, decide_eq_false (fun h => hl (by rw [h]))]
    go_enter Tryz.func57, Tryz.ntmps57
    go_wp2_with fail
    go_ret
    exact ⟨by rw [HN.out]; rfl, Below.refl _ _⟩
theorem addr_add (b o j : Nat) : (⟨b, o, none⟩ : Addr).add j = ⟨b, o + j, none⟩ := by unfold Addr.add; split <;> simp_all
theorem run_append_mt (P : Program) (w : World) (t ty e : TypeId) (i : TypeInfo) (ht : P.underlying t = some (.slice e)) (hi : P.info? e = some i) (o : Option Addr) (c : Nat) :
    (Builtin.append_ #[t, t] ty #[.slice none 0 0, .slice o 0 c]).run P w = .ok (.slice none 0 0) w := by
  cases o with
  | none => simp [Builtin.append_, run_underlying ht, sizeOf, typeInfo, hi, Builtin.lenOf, Builtin.firstCells]
  | some ad => simp [Builtin.append_, run_underlying ht, sizeOf, typeInfo, hi, Builtin.lenOf, Builtin.firstCells, loadCells, loadCellsFrom, Result.andThen]
theorem wpList_append_mt {P : Program} {w : World} {ops : Array Oper} {rest : List Oper} {o : Oper} {a : Act} {Q : Exit → Act → World → Prop} (hgd : o.guard = none) (s x : Operand) (t : TypeId)
    (ho : o.op = .call { callee := .builtin .append, args := #[s, x], argTypes := #[t, t] })
    (e : TypeId) (i : TypeInfo) (ht : P.underlying t = some (.slice e)) (hi : P.info? e = some i)
    (oa : Option Addr) (c : Nat) (hs : a.eval s = .slice none 0 0) (hx : a.eval x = .slice oa 0 c)
    (h : wpList P ops Q rest (a.put o.dst (.slice none 0 0)) w) : wpList P ops Q (o :: rest) a w := by
  refine wpList_plain hgd fun K hK => ?_
  have hrun := run_append_mt P w t o.type e i ht hi oa c
  unfold Oper.wp
  simp [execOp, ho, resolve, invoke, builtin, hs, hx, hrun, Result.andThen]
  exact hK _ _ h
end Go.Proofs.YtbdimlppnhcicaaGreatDoor
