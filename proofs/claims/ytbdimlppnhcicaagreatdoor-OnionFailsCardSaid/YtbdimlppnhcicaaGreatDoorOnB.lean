/- onion: numbers -/
import Derived.Test.YtbdimlppnhcicaaGreatDoorOnA
import Derived.Test.YtbdimlppnhcicaaGreatDoorOnP
namespace Go.Proofs.YtbdimlppnhcicaaGreatDoor
set_option linter.unusedVariables false
open Go.RowKit
/-! onion: numbers -/
def NumOk (q : Op4) (most : Nat) (w : World) (e : Ending) (w' : World) : Prop :=
  Below w.heap.size w w' ∧ ∃ n : Int, e = .returned (.tuple #[.int .i64 n, .bool (isX q && (numN q.u.data.toList most).isSome)]) ∧ ∀ u, isX q = true → numN q.u.data.toList most = some u → n = u
theorem numOk_mk {q : Op4} {most : Nat} {w w' : World} {e : Ending} {n : Int} {b : Bool} (hb : Below w.heap.size w w') (he : e = .returned (.tuple #[.int .i64 n, .bool b])) (h1 : b = (isX q && (numN q.u.data.toList most).isSome)) (h2 : ∀ u, isX q = true → numN q.u.data.toList most = some u → n = u) : NumOk q most w e w' :=
  ⟨hb, n, by rw [he, h1], h2⟩
set_option maxRecDepth 100000 in
set_option maxHeartbeats 8000000 in
theorem onum_any (t : ByteArray) (M : Int) (most : Nat) (w : World) (q : Op4) (hM : M = (most : Int)) (hm : most ≤ 9223372036854775807) (hu : q.u.size ≤ 16384) (hL : LibOk w) (hT : Tab w)
    (HO : Calls Tryz.prog 61 #[.string t] w fun e w' => e = .returned (.tuple #[.string q.u, .bool (isX q)]) ∧ Below w.heap.size w w') : Calls Tryz.prog 166 #[.string t, .int .i64 M] w (NumOk q most w) := by
  have H := Lib.hid HO
  have HL := Lib.hid hL
  have HT := Lib.hid hT
  have HM := Lib.hid hm
  have HMM := Lib.hid hM
  have hM0 : 0 ≤ M := by omega
  have hM1 : M ≤ 9223372036854775807 := by omega
  obtain ⟨s, hs⟩ : ∃ s, q.u = s := ⟨_, rfl⟩
  obtain ⟨x, hx⟩ : ∃ x, isX q = x := ⟨_, rfl⟩
  have HS := Lib.hid hs
  have HX := Lib.hid hx
  rw [hs, hx] at H
  rw [hs] at hu
  clear HO hL hT hM hm hs hx
  by_cases hp : ∃ v, Lib.parseIntB 64 s.data.toList = .ok v
  · obtain ⟨v, hp⟩ := hp
    have HP := Lib.hid (fun W => par79_ok s v hp hu W)
    obtain ⟨g1, g2⟩ := num_of_parse HM.out hp
    have HG2 : Hid (∀ u, isX q = true → numN q.u.data.toList most = some u → v = (u : Int)) := fun u _ h => g2 u (by rw [HS.out] at h; exact h)
    have HG1 : Hid (∀ b, (x && (decide (0 ≤ v) && decide (v ≤ M) && decide (Lib.itoa v = s.data.toList))) = b → b = (isX q && (numN q.u.data.toList most).isSome)) := fun b h => by
      rw [HS.out, HX.out, g1, ← h, HMM.out]
    have HF := Lib.hid (fun (h0 : 0 ≤ v) (h1 : v ≤ M) W hW => Tryz.strconv_FormatInt_10 v (by omega) (by omega) W hW)
    clear hp g1 g2
    cases x with
    | false =>
      go_enter Tryz.func166, Tryz.ntmps166
      go_wp2_with (first
        | (go_at_call 61; (with_reducible refine Calls.mono H.out ?_); rintro e w1 ⟨rfl, hb⟩; have B1 := Lib.hid hb; clear hb)
        | (go_at_call 188; (with_reducible refine Calls.mono (HP.out _) ?_); rintro e w2 ⟨rfl, hb⟩; have B2 := Lib.hid (B1.out.trans (hb.mono B1.out.size)); clear hb))
      go_ret2
      exact numOk_mk B2.out rfl (HG1.out _ rfl) HG2.out
    | true =>
      by_cases h0 : 0 ≤ v
      case neg =>
        have HGF := Lib.hid (HG1.out false (by rw [decide_eq_false h0]; rfl))
        go_enter Tryz.func166, Tryz.ntmps166
        go_wp2_with (first
          | (go_at_call 61; (with_reducible refine Calls.mono H.out ?_); rintro e w1 ⟨rfl, hb⟩; have B1 := Lib.hid hb; clear hb)
          | (go_at_call 188; (with_reducible refine Calls.mono (HP.out _) ?_); rintro e w2 ⟨rfl, hb⟩; have B2 := Lib.hid (B1.out.trans (hb.mono B1.out.size)); clear hb))
        go_ret2
        exact numOk_mk B2.out rfl HGF.out HG2.out
      by_cases h1 : v ≤ M
      case neg =>
        have HGF := Lib.hid (HG1.out false (by rw [decide_eq_false h1, Bool.and_false]; rfl))
        go_enter Tryz.func166, Tryz.ntmps166
        go_wp2_with (first
          | (go_at_call 61; (with_reducible refine Calls.mono H.out ?_); rintro e w1 ⟨rfl, hb⟩; have B1 := Lib.hid hb; clear hb)
          | (go_at_call 188; (with_reducible refine Calls.mono (HP.out _) ?_); rintro e w2 ⟨rfl, hb⟩; have B2 := Lib.hid (B1.out.trans (hb.mono B1.out.size)); clear hb))
        go_ret2
        exact numOk_mk B2.out rfl HGF.out HG2.out
      obtain ⟨f, hf⟩ : ∃ f : ByteArray, (⟨(Lib.itoa v).toArray⟩ : ByteArray) = f := ⟨_, rfl⟩
      have HFF : Hid (∀ W, Tab W → Calls Tryz.prog 114 #[.int .i64 v, .int .i64 10] W fun e w' => e = .returned (.string f) ∧ Below W.heap.size W w') := fun W hW => (HF.out h0 h1 W hW).mono fun e w' ⟨he, k, os, hw⟩ => ⟨by rw [he, hf], by rw [hw]; exact grow_below W k os⟩
      have HQ : Hid ((f = s) = (Lib.itoa v = s.data.toList)) := by
        show _ = _
        apply propext
        constructor
        · intro h; rw [← h, ← hf]
        · intro h; rw [← hf, h]
      clear hf HF
      by_cases hfs : f = s
      · have e1 : (f.toList == s.toList) = true := by rw [hfs]; simp
        have HGF := Lib.hid (HG1.out true (by rw [decide_eq_true h0, decide_eq_true h1, decide_eq_true (HQ.out ▸ hfs)]; rfl))
        clear hfs
        go_enter Tryz.func166, Tryz.ntmps166
        go_wp2_with (first
          | (go_at_call 61; (with_reducible refine Calls.mono H.out ?_); rintro e w1 ⟨rfl, hb⟩; have B1 := Lib.hid hb; clear hb)
          | (go_at_call 188; (with_reducible refine Calls.mono (HP.out _) ?_); rintro e w2 ⟨rfl, hb⟩; have B2 := Lib.hid (B1.out.trans (hb.mono B1.out.size)); clear hb)
          | (go_at_call 114; (with_reducible refine Calls.mono (HFF.out _ (HT.out.below B2.out)) ?_); rintro e w3 ⟨rfl, hb⟩; have B3 := Lib.hid (B2.out.trans (hb.mono B2.out.size)); clear hb))
        go_ret2
        exact numOk_mk B3.out rfl HGF.out HG2.out
      · have e1 := toList_ne hfs
        have HGF := Lib.hid (HG1.out false (by rw [decide_eq_false (fun h => hfs (HQ.out ▸ h)), Bool.and_false]; rfl))
        clear hfs
        go_enter Tryz.func166, Tryz.ntmps166
        go_wp2_with (first
          | (go_at_call 61; (with_reducible refine Calls.mono H.out ?_); rintro e w1 ⟨rfl, hb⟩; have B1 := Lib.hid hb; clear hb)
          | (go_at_call 188; (with_reducible refine Calls.mono (HP.out _) ?_); rintro e w2 ⟨rfl, hb⟩; have B2 := Lib.hid (B1.out.trans (hb.mono B1.out.size)); clear hb)
          | (go_at_call 114; (with_reducible refine Calls.mono (HFF.out _ (HT.out.below B2.out)) ?_); rintro e w3 ⟨rfl, hb⟩; have B3 := Lib.hid (B2.out.trans (hb.mono B2.out.size)); clear hb))
        go_ret2
        exact numOk_mk B3.out rfl HGF.out HG2.out
  · have hp' : ∀ v, Lib.parseIntB 64 s.data.toList ≠ .ok v := fun v h => hp ⟨v, h⟩
    have HP := Lib.hid (fun W (hW : LibOk W) => par79_bad s hp' hu W hW)
    have hn := num_of_bad HM.out hp'
    have HGF : Hid (false = (isX q && (numN q.u.data.toList most).isSome)) := by show _ = _; rw [HS.out, hn]; simp
    have HG2 : Hid (∀ (n : Int) u, isX q = true → numN q.u.data.toList most = some u → n = (u : Int)) := fun n u _ h => by rw [HS.out, hn] at h; cases h
    clear hp hp' hn
    go_enter Tryz.func166, Tryz.ntmps166
    cases x <;>
    · go_wp2_with (first
        | (go_at_call 61; (with_reducible refine Calls.mono H.out ?_); rintro e w1 ⟨rfl, hb⟩; have B1 := Lib.hid hb; clear hb)
        | (go_at_call 188; (with_reducible refine Calls.mono (HP.out _ (HL.out.below B1.out)) ?_); rintro e w2 ⟨n, b, rfl, hb⟩; have B2 := Lib.hid (B1.out.trans (hb.mono B1.out.size)); clear hb))
      go_ret2
      exact numOk_mk B2.out rfl HGF.out (HG2.out _)
theorem all_snoc (p : UInt8 → Bool) (l : List UInt8) (c : UInt8) : (l ++ [c]).all p = (l.all p && p c) := by simp
/-- the document's loop over digits -/
def DigAt (s : ByteArray) (i : Nat) (y : Int) : Prop := (s.data.toList.take i).all isDig = true ∧ y = (decV (s.data.toList.take i) : Int)
theorem take_at (s : ByteArray) (i : Nat) (h : i < s.size) : s.data.toList.take (i + 1) = s.data.toList.take i ++ [s[i]] := by
  rw [List.take_succ_eq_append_getElem (by rw [list_size]; exact h)]; rfl
theorem DigAt.next {s : ByteArray} {i : Nat} {y : Int} (h : DigAt s i y) (hi : i < s.size) (hd : isDig s[i] = true) : DigAt s (i + 1) (y * 10 + (((s[i]).toNat : Int) - 48)) := by
  have hc := of_decide_eq_true hd
  refine ⟨by rw [take_at s i hi, all_snoc, h.1, hd]; rfl, ?_⟩
  rw [take_at s i hi, decV, decF_snoc, h.2]
  show _ = (((decV (s.data.toList.take i)) * 10 + ((s[i]).toNat - 48) : Nat) : Int)
  omega
theorem DigAt.lt {s : ByteArray} {i : Nat} {y : Int} (h : DigAt s i y) (hi : i ≤ s.size) : 0 ≤ y ∧ y < 10 ^ i := by
  have := decF_lt (s.data.toList.take i) 0 h.1
  rw [h.2]
  refine ⟨by omega, ?_⟩
  have hl : (s.data.toList.take i).length = i := by rw [List.length_take, list_size]; omega
  rw [hl, Nat.zero_add, Nat.one_mul] at this
  have h2 : decV (s.data.toList.take i) < 10 ^ i := this
  exact_mod_cast h2
end Go.Proofs.YtbdimlppnhcicaaGreatDoor
