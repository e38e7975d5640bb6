/- the calls of a book in a row; large, has, works -/
import Derived.Test.YtnaodgljdbkmnaaDoorBookI
import Derived.BigQuiet
namespace Go.Proofs.YtnaodgljdbkmnaaDoor
set_option linter.unusedVariables false
open Go.RowKit
/-- a call of a book -/
structure Opr where
  kind : Int
  t : ByteArray
  a : Int
  n : Int
  e : Int
  h : Int
  s : ByteArray
def Opr.cells (o : Opr) : List Value := [.int .u8 o.kind, .string o.t, .int .i64 o.a, .int .i64 o.n, .int .i64 o.e, .int .i64 o.h, .string o.s]
def OpsAt (w : World) (a : Option Addr) (ops : List Opr) : Prop := ops = [] ∨ ∃ b off, a = some ⟨b, off, none⟩ ∧ ∀ (k : Nat) (o : Opr), ops[k]? = some o → (∀ j, j < 7 → w.cell? ⟨b, off + k * 7 + j, none⟩ = o.cells[j]?) ∧ 0 ≤ o.kind ∧ o.kind < 256 ∧ o.t.size ≤ maxLen ∧ o.s.size ≤ maxLen
theorem OpsAt.below {w w' : World} {a : Option Addr} {ops : List Opr} (h : OpsAt w a ops) (hb : Below w.heap.size w w') : OpsAt w' a ops := by
  rcases h with h | ⟨b, off, ha, hk⟩
  · exact .inl h
  · refine .inr ⟨b, off, ha, fun k o ho => ⟨fun j hj => ?_, (hk k o ho).2⟩⟩
    have h1 := (hk k o ho).1 j hj
    have hj' : j < o.cells.length := hj
    rw [List.getElem?_eq_getElem hj'] at h1 ⊢
    exact cell_later hb h1
theorem BkS.not {w : World} {base bk mm : Nat} {v : Value} {L : List Ent} (h : BookAt w base bk mm v L) {k : Nat} {cs : Array Value} {t : TypeId} {f : Nat × Nat} (hk : w.heap[k]? = some (.cells cs t f)) (h1 : t ≠ 90) (h2 : t ≠ 22) (h3 : t ≠ 58) : ¬ BkS bk mm v L k := by
  rintro (hq | hq | hq | hq)
  · exact type_ne hk h.bkk h1 hq
  · obtain ⟨es, c, hm, _⟩ := h.map
    exact map_not_cells hm hk hq.symm
  · exact own_ne h.own hk h2 _ hq rfl
  · obtain ⟨e, he, rfl⟩ := List.mem_map.1 hq
    exact type_ne hk (h.bills e he).1 h3 rfl
/-- a block of another type stays where a book turns -/
theorem BTurn.keep {base bk mm : Nat} {v : Value} {L L' : List Ent} {x : Value} {w : World} {e : Ending} {w' : World} (h : BookAt w base bk mm v L) (ht : BTurn base bk mm v L L' x w e w') {k : Nat} {cs : Array Value} {t : TypeId} {f : Nat × Nat} (hk : w.heap[k]? = some (.cells cs t f)) (h1 : t ≠ 90) (h2 : t ≠ 22) (h3 : t ≠ 58) : w'.heap[k]? = some (.cells cs t f) := by
  obtain ⟨_, v', _, _, f⟩ := ht
  exact (f.block k (lt_of_heap hk) (BkS.not h hk h1 h2 h3)).trans hk
def LargePost (n : Nat) (w : World) (e : Ending) (w' : World) : Prop := ∃ b, e = .returned (.bool b) ∧ (b = false → n ≤ 400) ∧ Below w.heap.size w w'
set_option maxRecDepth 100000 in
set_option maxHeartbeats 2000000 in
/-- large tells something -/
theorem blarge_any (a : Option Addr) (cp : Nat) (ops : List Opr) (w : World) (hm : ops.length ≤ maxLen) (ho : OpsAt w a ops) : Calls Tryd.prog 25 #[.slice a ops.length cp] w (LargePost ops.length w) := by
  have HO := Lib.hid ho
  clear ho
  unfold maxLen at hm
  go_enter Tryd.func25, Tryd.ntmps25
  go_wp2
  go_loopw [3, 4] (fun nv iv wr => ∃ (k : Nat) (y : Int), k ≤ ops.length ∧ iv = .int .i64 k ∧ nv = .int .i64 y ∧ Hid (Below w.heap.size w wr)) (fun _ iv _ => ops.length - (intOf iv).toNat)
  case atStart => exact ⟨0, 0, Nat.zero_le _, rfl, rfl, Below.refl _ _⟩
  case round =>
    obtain ⟨k, y, hk, rfl, rfl, hB⟩ := hrel
    by_cases hlt : k < ops.length
    · have hkl : (k : Int) < (ops.length : Int) := by omega
      by_cases h3 : y ≤ 40000
      · obtain ⟨o, hoo⟩ : ∃ o, ops[k]? = some o := ⟨_, List.getElem?_eq_getElem hlt⟩
        have hne : ops ≠ [] := by intro h; rw [h] at hlt; simp at hlt
        obtain ⟨b, off, rfl, hrec⟩ := (HO.out.below hB.out).resolve_left hne
        obtain ⟨hc, _⟩ := hrec k o hoo
        have q1 : wr.cell? ⟨b, off + k * 7 + 1, none⟩ = some (.string o.t) := hc 1 (by omega)
        have q6 : wr.cell? ⟨b, off + k * 7 + 6, none⟩ = some (.string o.s) := hc 6 (by omega)
        have hBs := hB.out.size
        clear hoo hrec hc
        go_wp2_with fail
        go_quiet (fail)
        go_wp2_with fail
        go_roundw
        case rel => exact ⟨k + 1, _, by omega, by go_num, rfl, below_drewN hB.out _⟩
        case measure => simp [intOf]; omega
      · have h3' : decide (y ≤ 40000) = false := by simpa using h3
        have h4 : 40000 < y := by omega
        go_wp2_with fail
        go_ret
        exact ⟨_, rfl, (fun h => by cases h), hB.out⟩
    · obtain rfl : k = ops.length := by omega
      by_cases h3 : y ≤ 40000
      · by_cases h4 : ops.length ≤ 400
        · have h4i : (ops.length : Int) ≤ 400 := by omega
          go_wp2_with fail
          go_ret
          exact ⟨_, rfl, (fun _ => h4), hB.out⟩
        · have h4i : (400 : Int) < (ops.length : Int) := by omega
          go_wp2_with fail
          go_ret
          exact ⟨true, rfl, (fun h => by cases h), hB.out⟩
      · have h3' : (40000 : Int) < y := by omega
        go_wp2_with fail
        go_ret
        exact ⟨true, rfl, (fun h => by cases h), hB.out⟩
theorem bl_eq (a b : ByteArray) : (a.toList == b.toList) = (a == b) := by
  by_cases h : a = b
  · subst h
    rw [(ba_beq a a).2 rfl]; simp
  · rw [toList_ne h]
    cases hb : (a == b) with
    | false => rfl
    | true => exact absurd ((ba_beq _ _).1 hb) h
def hasB (P : List ByteArray) (t : ByteArray) : Bool := P.any fun p => p == t
theorem hasB_iff {P : List ByteArray} {t : ByteArray} : hasB P t = true ↔ t ∈ P := by
  unfold hasB
  rw [List.any_eq_true]
  constructor
  · rintro ⟨p, hp, he⟩; rw [ba_beq] at he; rw [← he]; exact hp
  · intro h; exact ⟨t, h, (ba_beq _ _).2 rfl⟩
set_option maxRecDepth 100000 in
set_option maxHeartbeats 2000000 in
theorem has_any (base : Nat) (v : Value) (P : List ByteArray) (t : ByteArray) (w : World) (h : w.ownsRow base 22 1 v P.length (P.map .string)) (hm : P.length ≤ 400) : Calls Tryd.prog 28 #[v, .string t] w fun e w' => e = .returned (.bool (hasB P t)) ∧ Below w.heap.size w w' := by
  obtain ⟨va, vc, rfl⟩ := own_slice h
  have HH := Lib.hid h
  clear h
  go_enter Tryd.func28, Tryd.ntmps28
  go_wp2
  go_loopw [5] (fun iv wr => ∃ k : Nat, k ≤ P.length ∧ iv = .int .i64 k ∧ wr = w ∧ Hid (∀ p ∈ P.take k, (p == t) = false)) (fun iv _ => P.length - (intOf iv).toNat)
  case atStart => exact ⟨0, Nat.zero_le _, rfl, rfl, by intro p hp; simp at hp⟩
  case round =>
    obtain ⟨k, hk, rfl, rfl, hA⟩ := hrel
    by_cases hlt : k < P.length
    · obtain ⟨p, hp⟩ : ∃ p, P[k]? = some p := ⟨_, List.getElem?_eq_getElem hlt⟩
      obtain ⟨g, cap, cur, hvv, hg, hh, _, _, _, ht⟩ := row_cellsG HH.out (by omega)
      cases hvv
      have d0 : wr.cell? ⟨g, k, none⟩ = some (.string p) := by rw [cell_of_row _ _ _ _ _ _ hh]; rw [ht k (by omega), List.getElem?_map, hp]; rfl
      have hkl : (k : Int) < (P.length : Int) := by omega
      have HP := Lib.hid hp
      have HLT := Lib.hid hlt
      clear ht hh hp
      cases hb : (p == t) with
      | true =>
        have hbb : (p.toList == t.toList) = true := by rw [bl_eq]; exact hb
        have HX : Hid (hasB P t = true) := hasB_iff.2 (by rw [← (ba_beq _ _).1 hb]; exact List.mem_of_getElem? HP.out)
        go_wp2_with fail
        go_ret
        exact ⟨by rw [HX.out]; rfl, Below.refl _ _⟩
      | false =>
        have hbb : (p.toList == t.toList) = false := by rw [bl_eq]; exact hb
        have HX := Lib.hid hb
        go_wp2_with fail
        go_roundw
        case rel =>
          refine ⟨k + 1, by omega, by go_num, trivial, ?_⟩
          intro q hq
          rw [List.take_succ_eq_append_getElem HLT.out] at hq
          rcases List.mem_append.1 hq with hq | hq
          · exact hA.out q hq
          · rw [List.mem_singleton] at hq
            have : P[k] = p := by have := HP.out; rw [List.getElem?_eq_getElem HLT.out] at this; exact Option.some.inj this
            rw [hq.trans this]; exact HX.out
        case measure => simp [intOf]; omega
    · obtain rfl : k = P.length := by omega
      have HX : Hid (hasB P t = false) := by
        show _ = _
        have := hA.out
        rw [List.take_length] at this
        unfold hasB
        exact List.any_eq_false.2 (fun p hp => by rw [this p hp]; decide)
      go_wp2_with fail
      go_ret
      exact ⟨by rw [HX.out]; rfl, Below.refl _ _⟩
/-- what Ask tells -/
def askV (L : List Ent) (pre : ByteArray) (amt now exp delta : Int) (memo : ByteArray) : Value := if askE L pre amt now exp delta memo = 0 then .tuple #[.string (hashL pre), .int .i64 0] else .tuple #[.string ⟨#[]⟩, .int .i64 (askE L pre amt now exp delta memo)]
theorem ask_sum (base bk mm : Nat) (v : Value) (L : List Ent) (w : World) (h : BookAt w base bk mm v L) (pre : ByteArray) (amt now exp delta : Int) (memo : ByteArray) (hp : pre.size ≤ maxLen) (hmm : memo.size ≤ maxLen) (hL : LibOk w) :
    Calls Tryd.prog 33 #[.pointer (some ⟨bk, 0, none⟩), .string pre, .int .i64 amt, .int .i64 now, .int .i64 exp, .int .i64 delta, .string memo] w fun e w' => ∃ L', BTurn base bk mm v L L' (askV L pre amt now exp delta memo) w e w' ∧ ((askE L pre amt now exp delta memo ≠ 0 ∧ L' = L) ∨ (askE L pre amt now exp delta memo = 0 ∧ ∃ bb, L' = L ++ [(bb, askB pre amt now exp delta memo)])) := by
  refine (ask_any base bk mm v L w h pre amt now exp delta memo hp hmm hL).mono fun e w' hpost => ?_
  unfold askV
  rcases hpost with ⟨h1, h2⟩ | ⟨h1, bb, h2⟩
  · exact ⟨L, by rw [if_neg h1]; exact h2, .inl ⟨h1, rfl⟩⟩
  · exact ⟨_, by rw [if_pos h1]; exact h2, .inr ⟨h1, bb, rfl⟩⟩
def n7 : ByteArray := ⟨#[110, 55, 59]⟩
def hn7 : ByteArray := ⟨#[72, 110, 55, 59]⟩
def tea : ByteArray := ⟨#[116, 101, 97]⟩
theorem ask_n7 : askE [] n7 1000 50 100 9 tea = 0 := by kernel_rfl
theorem hash_n7 : hashL n7 = hn7 := by kernel_rfl
theorem askV_n7 : askV [] n7 1000 50 100 9 tea = .tuple #[.string ⟨#[72, 110, 55, 59]⟩, .int .i64 0] := by kernel_rfl
theorem off_n7 (bb : Nat) : offV (findB hn7 [(bb, askB n7 1000 50 100 9 tea)] 0) 1000 60 5 14 = .tuple #[.string n7, .int .i64 0] := by kernel_rfl
theorem ask_ex (base bk mm : Nat) (v : Value) (w : World) (h : BookAt w base bk mm v []) (hL : LibOk w) : Calls Tryd.prog 33 #[.pointer (some ⟨bk, 0, none⟩), .string ⟨#[110, 55, 59]⟩, .int .i64 1000, .int .i64 50, .int .i64 100, .int .i64 9, .string ⟨#[116, 101, 97]⟩] w fun e w' => ∃ bb v', e = .returned (.tuple #[.string ⟨#[72, 110, 55, 59]⟩, .int .i64 0]) ∧ BookAt w' base bk mm v' [(bb, askB n7 1000 50 100 9 tea)] ∧ Below base w w' := by
  refine (ask_sum base bk mm v [] w h n7 1000 50 100 9 tea (by decide) (by decide) hL).mono fun e w' ⟨L', ht, hor⟩ => ?_
  rcases hor with ⟨h1, _⟩ | ⟨_, bb, rfl⟩
  · exact absurd ask_n7 h1
  · have hbel := BTurn.below h ht
    obtain ⟨he, v', h2, _, _⟩ := ht
    exact ⟨bb, v', by rw [he, askV_n7], h2, hbel⟩
theorem offer_ex (base bk mm bb : Nat) (v : Value) (w : World) (h : BookAt w base bk mm v [(bb, askB n7 1000 50 100 9 tea)]) : Calls Tryd.prog 29 #[.pointer (some ⟨bk, 0, none⟩), .string ⟨#[72, 110, 55, 59]⟩, .int .i64 1000, .int .i64 60, .int .i64 5, .int .i64 14] w fun e w' => e = .returned (.tuple #[.string ⟨#[110, 55, 59]⟩, .int .i64 0]) ∧ Below w.heap.size w w' :=
  (offer_any base bk mm v _ w h hn7 1000 60 5 14).mono fun e w' ⟨he, hb⟩ => ⟨by rw [he]; exact congrArg Ending.returned (off_n7 bb), hb⟩
set_option maxRecDepth 100000 in
set_option maxHeartbeats 2000000 in
theorem bworks_any (w : World) (hL : LibOk w) : Calls Tryd.prog 26 #[] w fun e w' => e = .returned (.bool true) ∧ Below w.heap.size w w' := by
  have HL := Lib.hid hL
  clear hL
  go_enter Tryd.func26, Tryd.ntmps26
  go_wp2_with (first
    | (go_at_call 27; (with_reducible refine Calls.mono (bnew_any w) ?_); rintro e w1 ⟨bk, mm, rfl, h1, hb1⟩; have H1 := Lib.hid h1; have B1 := Lib.hid hb1; clear h1 hb1)
    | (go_at_call 33; (with_reducible refine Calls.mono (ask_ex _ _ _ _ _ H1.out (HL.out.below B1.out)) ?_); rintro e w2 ⟨bb, v2, rfl, h2, hb2⟩; have H2 := Lib.hid h2; have B2 := Lib.hid (B1.out.trans hb2); clear h2 hb2)
    | (go_at_call 29; (with_reducible refine Calls.mono (offer_ex _ _ _ _ _ _ H2.out) ?_); rintro e w3 ⟨rfl, hb3⟩; have H3 := Lib.hid (H2.out.below hb3); have B3 := Lib.hid (B2.out.trans (hb3.mono B2.out.size)); clear hb3)
    | (go_at_call 36; (with_reducible refine Calls.mono (bcount_any _ _ _ _ _ _ H3.out) ?_); rintro e w4 ⟨rfl, hb4⟩; have B4 := Lib.hid (B3.out.trans (hb4.mono B3.out.size)); clear hb4))
  go_ret
  exact ⟨rfl, B4.out⟩
end Go.Proofs.YtnaodgljdbkmnaaDoor
