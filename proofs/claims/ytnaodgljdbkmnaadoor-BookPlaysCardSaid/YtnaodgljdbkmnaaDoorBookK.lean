/- BookOnce walked -/
import Derived.Test.YtnaodgljdbkmnaaDoorBookJ
import Derived.Deep.AppendLies
import Derived.Laws.Rows
import Derived.Laws.Tables
import Derived.Deep.MidRow
import Derived.Deep.CutBlock
namespace Go.Proofs.YtnaodgljdbkmnaaDoor
set_option linter.unusedVariables false
open Go.RowKit
/-- bills whose hash is their preimage's -/
def GoodB (L : List Ent) : Prop := ∀ e ∈ L, rt e.2.pre = true ∧ rt (hashL e.2.pre) = true ∧ hashL e.2.pre = e.2.hash
/-- what was paid -/
structure PaidOk (L : List Ent) (P : List ByteArray) : Prop where
  there : ∀ x ∈ P, ∃ e ∈ L, e.2.hash = x ∧ e.2.paid = true
  back : ∀ e ∈ L, e.2.paid = true → e.2.hash ∈ P
/-- two rows that do not touch -/
def Apart (a b : Value) : Prop := ∀ g, a.ownBlock = some g → b.ownBlock = some g → False
theorem askE_good {L : List Ent} {pre : ByteArray} {amt now exp delta : Int} {memo : ByteArray} (h : askE L pre amt now exp delta memo = 0) : rt pre = true ∧ rt (hashL pre) = true := by
  unfold askE at h
  cases h1 : rt pre with
  | false => rw [if_pos h1] at h; cases h
  | true =>
    rw [if_neg (by rw [h1]; decide)] at h
    cases h2 : rt (hashL pre) with
    | false => rw [if_pos (.inl h2)] at h; cases h
    | true => exact ⟨rfl, rfl⟩
theorem GoodB.ask {L L' : List Ent} {pre : ByteArray} {amt now exp delta : Int} {memo : ByteArray} (h : GoodB L) (ho : (askE L pre amt now exp delta memo ≠ 0 ∧ L' = L) ∨ (askE L pre amt now exp delta memo = 0 ∧ ∃ bb, L' = L ++ [(bb, askB pre amt now exp delta memo)])) : GoodB L' := by
  rcases ho with ⟨_, rfl⟩ | ⟨h0, bb, rfl⟩
  · exact h
  · intro e he
    rcases List.mem_append.1 he with he | he
    · exact h e he
    · rw [List.mem_singleton] at he; subst he
      obtain ⟨h1, h2⟩ := askE_good h0
      exact ⟨h1, h2, rfl⟩
theorem PaidOk.ask {L L' : List Ent} {P : List ByteArray} {pre : ByteArray} {amt now exp delta : Int} {memo : ByteArray} (h : PaidOk L P) (ho : (askE L pre amt now exp delta memo ≠ 0 ∧ L' = L) ∨ (askE L pre amt now exp delta memo = 0 ∧ ∃ bb, L' = L ++ [(bb, askB pre amt now exp delta memo)])) : PaidOk L' P := by
  rcases ho with ⟨_, rfl⟩ | ⟨h0, bb, rfl⟩
  · exact h
  · refine ⟨fun x hx => ?_, fun e he hp => ?_⟩
    · obtain ⟨e, he, h1⟩ := h.there x hx
      exact ⟨e, List.mem_append_left _ he, h1⟩
    · rcases List.mem_append.1 he with he | he
      · exact h.back e he hp
      · rw [List.mem_singleton] at he; subst he; cases hp
theorem GoodB.filter {L : List Ent} (h : GoodB L) (p : Ent → Bool) : GoodB (L.filter p) := fun e he => h e (List.mem_filter.1 he).1
theorem PaidOk.prune {L : List Ent} {P : List ByteArray} (h : PaidOk L P) (now : Int) : PaidOk (L.filter (kp now)) P :=
  ⟨fun x hx => by
    obtain ⟨e, he, h1, h2⟩ := h.there x hx
    exact ⟨e, List.mem_filter.2 ⟨he, by unfold kp; rw [h2]; rfl⟩, h1, h2⟩, fun e he hp => h.back e (List.mem_filter.1 he).1 hp⟩
theorem GoodB.pay {L : List Ent} (h : GoodB L) (x : ByteArray) : GoodB (payB x L) := by
  intro e he
  unfold payB at he
  obtain ⟨q, hq, rfl⟩ := List.mem_map.1 he
  have := h q hq
  split <;> exact this
theorem PaidOk.pay {L : List Ent} {P : List ByteArray} (h : PaidOk L P) {x : ByteArray} {j : Nat} {e : Ent} (hf : findB x L 0 = some (j, e)) : PaidOk (payB x L) (P ++ [x]) := by
  obtain ⟨hm, hx⟩ := findB_mem hf
  refine ⟨fun y hy => ?_, fun q hq hp => ?_⟩
  · rcases List.mem_append.1 hy with hy | hy
    · obtain ⟨q, hq, h1, h2⟩ := h.there y hy
      refine ⟨_, List.mem_map.2 ⟨q, hq, rfl⟩, ?_, ?_⟩
      · split <;> exact h1
      · split
        · rfl
        · exact h2
    · rw [List.mem_singleton] at hy; subst hy
      refine ⟨_, List.mem_map.2 ⟨e, hm, rfl⟩, ?_, ?_⟩
      · split <;> exact hx
      · rw [if_pos ((ba_beq _ _).2 hx.symm)]
  · unfold payB at hq
    obtain ⟨r, hr, rfl⟩ := List.mem_map.1 hq
    by_cases hb : (x == r.2.hash) = true
    · rw [if_pos hb]
      exact List.mem_append_right _ (by rw [List.mem_singleton]; exact ((ba_beq _ _).1 hb).symm)
    · rw [if_neg hb] at hp ⊢
      exact List.mem_append_left _ (h.back r hr hp)
theorem setE_was {L : List Ent} {P : List ByteArray} (hu : (L.map (·.2.hash)).Nodup) (h : PaidOk L P) (x : ByteArray) : setE x L = 232 ↔ x ∈ P := by
  unfold setE
  cases hf : findB x L 0 with
  | none =>
    simp only
    constructor
    · intro h; cases h
    · intro hx
      obtain ⟨e, he, h1, _⟩ := h.there x hx
      exact absurd h1 (findB_none.1 hf e he)
  | some q =>
    obtain ⟨j, e⟩ := q
    obtain ⟨hm, hx⟩ := findB_mem hf
    simp only
    constructor
    · intro h1
      split at h1
      · rw [← hx]; exact h.back e hm (by assumption)
      · cases h1
    · intro hp
      obtain ⟨e', he', h1, h2⟩ := h.there x hp
      have : e' = e := uni_ent hu he' hm (by rw [h1, hx])
      subst this
      rw [if_pos h2]
/-- what Offer tells is told right -/
theorem offer_right {L : List Ent} {P : List ByteArray} (hu : (L.map (·.2.hash)).Nodup) (hg : GoodB L) (h : PaidOk L P) (x : ByteArray) (amt now height expiry : Int) :
    (∃ X, X ≠ 0 ∧ offV (findB x L 0) amt now height expiry = .tuple #[.string ⟨#[]⟩, .int .i64 X]) ∨
    (∃ p, x ∉ P ∧ rt p = true ∧ rt (hashL p) = true ∧ hashL p = x ∧ p.size ≤ maxLen ∧ offV (findB x L 0) amt now height expiry = .tuple #[.string p, .int .i64 0]) := by
  unfold offV
  cases hf : findB x L 0 with
  | none => exact .inl ⟨230, by decide, rfl⟩
  | some q =>
    obtain ⟨j, e⟩ := q
    obtain ⟨hm, hx⟩ := findB_mem hf
    simp only
    by_cases h0 : offX e.2 amt now height expiry = 0
    · right
      rw [if_pos h0]
      obtain ⟨g1, g2, g3⟩ := hg e hm
      refine ⟨e.2.pre, ?_, g1, g2, by rw [g3, hx], by have := right_size g1; unfold maxLen; omega, rfl⟩
      intro hp
      obtain ⟨e', he', h1, h2⟩ := h.there x hp
      have : e' = e := uni_ent hu he' hm (by rw [h1, hx])
      subst this
      unfold offX offE at h0
      rw [if_pos h2] at h0
      cases h0
    · left
      rw [if_neg h0]
      exact ⟨_, h0, rfl⟩
theorem hash_empty : buildV ⟨#[72]⟩ [⟨#[]⟩] = .tuple #[.string ⟨#[]⟩, .int .i64 10] := by kernel_rfl
structure OnceAt (w wr : World) (base bk mm : Nat) (L : List Ent) (P : List ByteArray) (pv v : Value) : Prop where
  book : BookAt wr base bk mm v L
  row : wr.ownsRow base 22 1 pv P.length (P.map .string)
  apart : Apart pv v
  below : Below w.heap.size w wr
theorem OnceAt.next {w wr wx : World} {base bk mm : Nat} {L : List Ent} {P : List ByteArray} {pv v : Value} (h : OnceAt w wr base bk mm L P pv v) (hb : Below wr.heap.size wr wx) : OnceAt w wx base bk mm L P pv v :=
  ⟨h.book.below hb, own_below h.row hb, h.apart, h.below.trans (hb.mono h.below.size)⟩
/-- a call turns the book: the row of what was paid stays -/
theorem OnceAt.turn {w wr wx : World} {base bk mm : Nat} {L L' : List Ent} {P : List ByteArray} {pv v x : Value} {y : Ending} (hwb : w.heap.size ≤ base) (h : OnceAt w wr base bk mm L P pv v) (ht : BTurn base bk mm v L L' x wr y wx) : ∃ v', OnceAt w wx base bk mm L' P pv v' := by
  have hbel := BTurn.below h.book ht
  obtain ⟨_, v', h1, h2, f⟩ := ht
  refine ⟨v', h1, own_blocks h.row fun g hg => f.block g (h.row.lt g hg).2 ?_, fun g hg hv => ?_, h.below.trans (hbel.mono hwb)⟩
  · rintro (hq | hq | hq | hq)
    · exact own_ne h.row h.book.bkk (by decide) g hg hq
    · obtain ⟨es, c, hm, _⟩ := h.book.map
      subst hq
      rcases h.row.2 with ⟨hv, _⟩ | ⟨g', cap, cur, hv, _, hgg, _⟩
      · rw [hv] at hg; cases hg
      · rw [hv] at hg
        simp only [Value.ownBlock, Option.some.injEq] at hg
        subst hg
        rw [hm] at hgg; injection hgg with hgg; cases hgg
    · exact h.apart g hg hq
    · obtain ⟨e, he, heq⟩ := List.mem_map.1 hq
      exact own_ne h.row (h.book.bills e he).1 (by decide) g hg heq.symm
  · rcases h2 g (.inr (.inr (.inl hv))) with hq | hq
    · rcases hq with hq | hq | hq | hq
      · exact own_ne h.row h.book.bkk (by decide) g hg hq
      · obtain ⟨es, c, hm, _⟩ := h.book.map
        subst hq
        rcases h.row.2 with ⟨hv, _⟩ | ⟨g', cap, cur, hv, _, hgg, _⟩
        · rw [hv] at hg; cases hg
        · rw [hv] at hg
          simp only [Value.ownBlock, Option.some.injEq] at hg
          subst hg
          rw [hm] at hgg; injection hgg with hgg; cases hgg
      · exact h.apart g hg hq
      · obtain ⟨e, he, heq⟩ := List.mem_map.1 hq
        exact own_ne h.row (h.book.bills e he).1 (by decide) g hg heq.symm
    · have := (h.row.lt g hg).2; omega
theorem BookAt.of_fr {w w' : World} {base bk mm : Nat} {v : Value} {L : List Ent} {S : Nat → Prop} (h : BookAt w base bk mm v L) (f : Fr S w w') (hs : ∀ k, BkS bk mm v L k → ¬ S k) : BookAt w' base bk mm v L := by
  obtain ⟨es, c, hm, hl⟩ := h.map
  exact { h with
    bkk := (f.block bk (lt_of_heap h.bkk) (hs _ (.inl rfl))).trans h.bkk
    map := ⟨es, c, (f.block mm (lt_of_heap hm) (hs _ (.inr (.inl rfl)))).trans hm, hl⟩
    own := own_blocks h.own fun g hg => f.block g (h.own.lt g hg).2 (hs _ (.inr (.inr (.inl hg))))
    bills := fun e he => ⟨(f.block e.1 (lt_of_heap (h.bills e he).1) (hs _ (.inr (.inr (.inr (List.mem_map.2 ⟨e, he, rfl⟩)))))).trans (h.bills e he).1, (h.bills e he).2⟩ }
theorem BkS.row {w : World} {base b1 bk mm : Nat} {v pv : Value} {L : List Ent} {n : Nat} {xs : List Value} (h : BookAt w base bk mm v L) (hrow : w.ownsRow b1 22 1 pv n xs) (hap : Apart pv v) : ∀ k, BkS bk mm v L k → ¬ pv.ownBlock = some k := by
  rintro k (hq | hq | hq | hq) hk
  · exact own_ne hrow h.bkk (by decide) k hk hq
  · obtain ⟨es, c, hm, _⟩ := h.map
    subst hq
    rcases hrow.2 with ⟨hv, _⟩ | ⟨g', cap, cur, hv, _, hgg, _⟩
    · rw [hv] at hk; cases hk
    · rw [hv] at hk
      simp only [Value.ownBlock, Option.some.injEq] at hk
      subst hk
      rw [hm] at hgg; injection hgg with hgg; cases hgg
  · exact hap k hk hq
  · obtain ⟨e, he, heq⟩ := List.mem_map.1 hq
    exact own_ne hrow (h.bills e he).1 (by decide) k hk heq.symm
theorem OnceAt.push {w wr w2 : World} {base bk mm g cap pc : Nat} {pa : Option Addr} {L : List Ent} {P : List ByteArray} {v : Value} {t : ByteArray} (hwb : w.heap.size ≤ base) (h : OnceAt w wr base bk mm L P (.slice pa P.length pc) v)
    (hown : w2.ownsRow base 22 1 (.slice (some ⟨g, 0, none⟩) (P.length + 1) cap) (P.length + 1) (P.map Value.string ++ [.string t]))
    (hgrow : (wr.alloc (.cells #[.string t] 22)).grownBy w2 (Value.slice pa P.length pc).ownBlock)
    (hat : (Value.slice pa P.length pc).ownBlock = some g ∨ g = wr.heap.size + 1) : OnceAt w w2 base bk mm L (P ++ [t]) (.slice (some ⟨g, 0, none⟩) (P.length + 1) cap) v := by
  have hb := below_new8 wr (.cells #[.string t] 22)
  have h1 := h.next hb
  have f : Fr (fun k => (Value.slice pa P.length pc).ownBlock = some k) (wr.alloc (.cells #[.string t] 22)) w2 := ⟨hgrow.os, hgrow.tape, hgrow.output, hgrow.size, fun k hk hs => hgrow.block k hk (fun e => hs e.symm)⟩
  refine ⟨h1.book.of_fr f (BkS.row h1.book h1.row h1.apart), ?_, ?_, ?_⟩
  · rw [List.length_append, List.map_append]; exact hown
  · intro k hk hv
    simp only [Value.ownBlock, Option.some.injEq] at hk
    subst hk
    rcases hat with hat | hat
    · exact h.apart g hat hv
    · have := (h.book.own.lt g hv).2; omega
  · exact h1.below.grown hgrow h1.below.size (fun k hk => Nat.le_trans hwb (h.row.lt k hk).1)
theorem seven {w : World} {b : Nat} {a0 a1 a2 a3 a4 a5 a6 : Value} {t : TypeId} {f : Nat × Nat} (h : w.heap[b]? = some (.cells #[a0, a1, a2, a3, a4, a5, a6] t f)) :
    w.cell? ⟨b, 0, none⟩ = some a0 ∧ w.cell? ⟨b, 1, none⟩ = some a1 ∧ w.cell? ⟨b, 2, none⟩ = some a2 ∧ w.cell? ⟨b, 3, none⟩ = some a3 ∧ w.cell? ⟨b, 4, none⟩ = some a4 ∧ w.cell? ⟨b, 5, none⟩ = some a5 ∧ w.cell? ⟨b, 6, none⟩ = some a6 := by
  simp [World.cell?, h]
set_option maxRecDepth 100000 in
set_option maxHeartbeats 8000000 in
theorem bookOnce_any (a : Option Addr) (cp : Nat) (ops : List Opr) (w : World) (hm : ops.length ≤ maxLen) (ho : OpsAt w a ops) (hL : LibOk w) : Calls Tryd.prog 8 #[.slice a ops.length cp] w fun e w' => e = .returned (.bool true) ∧ Below w.heap.size w w' := by
  have HO := Lib.hid ho
  have HL := Lib.hid hL
  have HM := Lib.hid hm
  clear ho hL hm
  go_enter Tryd.func8, Tryd.ntmps8
  go_upto_region 2 with (go_at_call 25; (with_reducible refine Calls.mono (blarge_any a cp ops w HM.out HO.out) ?_); rintro e w1 ⟨b, rfl, hlt, hb1⟩; have B1 := Lib.hid hb1; have HLT := Lib.hid hlt; clear hb1 hlt; cases b)
  rotate_left
  · go_wp2_with (go_at_call 26; (with_reducible refine Calls.mono (bworks_any w1 (HL.out.below B1.out)) ?_); rintro e w2 ⟨rfl, hb2⟩; have B2 := Lib.hid hb2; clear hb2)
    go_ret
    exact ⟨rfl, B1.out.trans (B2.out.mono B1.out.size)⟩
  · have hn4 : ops.length ≤ 400 := HLT.out trivial
    go_wp2_with (go_at_call 27; (with_reducible refine Calls.mono (bnew_any w1) ?_); rintro e w2 ⟨bk, mm, rfl, h2, hb2⟩; have H2 := Lib.hid h2; have B2 := Lib.hid (B1.out.trans (hb2.mono B1.out.size)); clear h2 hb2)
    have hbase : w.heap.size ≤ w1.heap.size := B1.out.size
    obtain ⟨base, hbs⟩ : ∃ base, w1.heap.size = base := ⟨_, rfl⟩
    rw [hbs] at H2 hbase
    clear hbs HLT
    go_loopw [4, 5] (fun pv iv wr => ∃ (i : Nat) (v : Value) (L : List Ent) (P : List ByteArray), i ≤ ops.length ∧ P.length ≤ i ∧ iv = .int .i64 i ∧ Hid (OnceAt w wr base bk mm L P pv v) ∧ Hid (GoodB L ∧ PaidOk L P)) (fun _ iv _ => ops.length - (intOf iv).toNat)
    case atStart => exact ⟨0, _, [], [], Nat.zero_le _, Nat.zero_le _, rfl, ⟨H2.out, World.ownsRow_nil _ _ _ _, (fun g hg => by cases hg), B2.out⟩, (fun e he => by cases he), ⟨(fun x hx => by cases hx), (fun e he => by cases he)⟩⟩
    case round =>
      obtain ⟨i, v, L, P, hi, hPi, rfl, hR, hG⟩ := hrel
      have hBs := hR.out.below.size
      by_cases hlt : i < ops.length
      · obtain ⟨o, hoo⟩ : ∃ o, ops[i]? = some o := ⟨_, List.getElem?_eq_getElem hlt⟩
        have hne : ops ≠ [] := by intro h; rw [h] at hlt; simp at hlt
        obtain ⟨b, off, rfl, hrec0⟩ := (HO.out.below hR.out.below).resolve_left hne
        obtain ⟨hc0, hk0, hk1, ht, hs⟩ := hrec0 i o hoo
        obtain ⟨kd, t, am, n, e, h, s⟩ := o
        have hrng : wr.rangeAt b (off + i * 7) [.int .u8 kd, .string t, .int .i64 am, .int .i64 n, .int .i64 e, .int .i64 h, .string s] := fun j v hv => by
          have hj : j < 7 := (List.getElem?_eq_some_iff.1 hv).1
          exact (hc0 j hj).trans hv
        have HRNG := Lib.hid hrng
        have HT := Lib.hid ht
        have HS := Lib.hid hs
        have hii : (i : Int) < (ops.length : Int) := by omega
        obtain ⟨pa, pc, rfl⟩ := own_slice hR.out.row
        clear hoo hrec0 hc0 hrng ht hs hne
        simp only at hk0 hk1
        go_upto_region 9 with (refine wpList_load_mid rfl 50 (.tmp 28) rfl b (off + i * 7) rfl [.int .u8 kd, .string t, .int .i64 am, .int .i64 n, .int .i64 e, .int .i64 h, .string s] _ HRNG.out Tryd.underlying50 rfl (by kernel_rfl) ?_)
        have B6 := below_new' wr (.cells #[.int .u8 kd, .string t, .int .i64 am, .int .i64 n, .int .i64 e, .int .i64 h, .string s] 50)
        have K6 := Lib.hid (heap_alloc_at wr (.cells #[.int .u8 kd, .string t, .int .i64 am, .int .i64 n, .int .i64 e, .int .i64 h, .string s] 50))
        have R6 := Lib.hid (hR.out.next B6)
        clear B6 HRNG
        generalize wr.alloc (.cells #[.int .u8 kd, .string t, .int .i64 am, .int .i64 n, .int .i64 e, .int .i64 h, .string s] 50) = wa at K6 R6 ⊢
        generalize wr.heap.size = k6 at K6 ⊢
        have q1 := (seven K6.out).2.1
        obtain ⟨was, hw⟩ : ∃ was, hasB P t = was := ⟨_, rfl⟩
        have HAS : Hid (Calls Tryd.prog 28 #[.slice pa P.length pc, .string t] wa fun e w' => e = .returned (.bool was) ∧ Below wa.heap.size wa w') := by
          have := has_any base _ P t wa R6.out.row (by omega)
          rw [hw] at this; exact this
        have HW := Lib.hid hw
        clear hw
        go_upto_block 2 with (go_at_call 28; (with_reducible refine Calls.mono HAS.out ?_); rintro y w3 ⟨rfl, hb3⟩; have R3 := Lib.hid (R6.out.next hb3); have k3 := (hb3.block _ (lt_of_heap K6.out)).trans K6.out; have K3 := Lib.hid k3; have q0 := (seven k3).1; clear hb3 k3 q1)
        go_cut [4, 8, 9, 10, 11, 12] from 37 to 131 (fun p _ _ _ _ _ wx => ∃ (v' : Value) (L' : List Ent) (P' : List ByteArray), P'.length ≤ i + 1 ∧ Hid (OnceAt w wx base bk mm L' P' p v') ∧ Hid (GoodB L' ∧ PaidOk L' P'))
        case first =>
          obtain ⟨r0, r1, r2, r3, r4, r5, r6⟩ := seven K3.out
          clear r0 q0
          by_cases k2 : kd % 6 = 2
          · have e2 : (kd % 6 == 2) = true := by simpa using k2
            clear k2
            have HOF := Lib.hid (offer_any base bk mm v L w3 R3.out.book t am n h e)
            have HHA := Lib.hid (fun (p : ByteArray) (hp : p.size ≤ maxLen) W (hW : LibOk W) => hash_any p W hp hW)
            rcases offer_right R3.out.book.uni hG.out.1 hG.out.2 t am n h e with ⟨X, hX, hV⟩ | ⟨p, hnp, g1, g2, g3, g4, hV⟩
            · rw [hV] at HOF
              have HH0 : Hid (∀ W, LibOk W → Calls Tryd.prog 30 #[.string ⟨#[]⟩] W fun y w' => y = .returned (.tuple #[.string ⟨#[]⟩, .int .i64 10]) ∧ Below W.heap.size W w') := fun W hW => by
                have := HHA.out ⟨#[]⟩ (by decide) W hW
                rw [hash_empty] at this; exact this
              have hx0 : (X == 0) = false := by simpa using hX
              have hx1 : (X != 0) = true := by simpa using hX
              clear hV hX HHA
              go_wp2_with (first
                | (go_at_call 29; (with_reducible refine Calls.mono HOF.out ?_); rintro y w4 ⟨rfl, hb4⟩; have R4 := Lib.hid (R3.out.next hb4); clear hb4)
                | (go_at_call 30; (with_reducible refine Calls.mono (HH0.out _ (HL.out.below R4.out.below)) ?_); rintro y w5 ⟨rfl, hb5⟩; have R5 := Lib.hid (R4.out.next hb5); clear hb5))
              go_meet
              exact ⟨v, L, P, by omega, R5, hG⟩
            · rw [hV] at HOF
              have HH0 : Hid (∀ W, LibOk W → Calls Tryd.prog 30 #[.string p] W fun y w' => y = .returned (.tuple #[.string t, .int .i64 0]) ∧ Below W.heap.size W w') := fun W hW => by
                have := HHA.out p g4 W hW
                rw [hashV_yes g1 g2, g3] at this; exact this
              have hwf : was = false := by
                rw [← HW.out]
                cases hh : hasB P t with
                | false => rfl
                | true => exact absurd (hasB_iff.1 hh) hnp
              subst hwf
              clear hV HHA hnp g1 g2 g3 g4
              go_wp2_with (first
                | (go_at_call 29; (with_reducible refine Calls.mono HOF.out ?_); rintro y w4 ⟨rfl, hb4⟩; have R4 := Lib.hid (R3.out.next hb4); have k4 := (hb4.block _ (lt_of_heap K3.out)).trans K3.out; have K4 := Lib.hid k4; clear hb4 k4)
                | (go_at_call 30; (with_reducible refine Calls.mono (HH0.out _ (HL.out.below R4.out.below)) ?_); rintro y w5 ⟨rfl, hb5⟩; have R5 := Lib.hid (R4.out.next hb5); have d1 := (seven ((hb5.block _ (lt_of_heap K4.out)).trans K4.out)).2.1; clear hb5))
              go_meet
              exact ⟨v, L, P, by omega, R5, hG⟩
          have e2 : (kd % 6 == 2) = false := by simpa using k2
          by_cases k3 : kd % 6 = 3
          · have e3 : (kd % 6 == 3) = true := by simpa using k3
            clear k3
            have HST := Lib.hid (settled_any base bk mm v L w3 R3.out.book t)
            have hwas : was = true ↔ setE t L = 232 := by rw [← HW.out, hasB_iff]; exact (setE_was R3.out.book.uni hG.out.2 t).symm
            cases hf : findB t L 0 with
            | none =>
              have h1 : setE t L = 230 := by unfold setE; rw [hf]
              have h2 : setL t L = L := by unfold setL; rw [h1, if_neg (by decide)]
              have hwf : was = false := by
                cases hh : was with
                | false => rfl
                | true => rw [h1] at hwas; exact absurd (hwas.1 hh) (by decide)
              subst hwf
              rw [h1, h2] at HST
              clear h1 h2 hwas hf
              go_wp2_with (go_at_call 31; (with_reducible refine Calls.mono HST.out ?_); intro y w4 ht; have R4 := R3.out.turn hbase ht; have he := ht.1; subst he; have R5 := Lib.hid R4; clear ht R4)
              go_meet
              obtain ⟨v', h5⟩ := R5.out
              exact ⟨v', L, P, by omega, h5, hG⟩
            | some q =>
              obtain ⟨j, ⟨bb, b0⟩⟩ := q
              cases hp : b0.paid with
              | true =>
                have h1 : setE t L = 232 := by unfold setE; rw [hf]; simp only [hp, if_true]
                have h2 : setL t L = L := by unfold setL; rw [h1, if_neg (by decide)]
                have hwf : was = true := hwas.2 h1
                subst hwf
                rw [h1, h2] at HST
                clear h1 h2 hwas hf hp
                go_wp2_with (go_at_call 31; (with_reducible refine Calls.mono HST.out ?_); intro y w4 ht; have R4 := R3.out.turn hbase ht; have he := ht.1; subst he; have R5 := Lib.hid R4; clear ht R4)
                go_meet
                obtain ⟨v', h5⟩ := R5.out
                exact ⟨v', L, P, by omega, h5, hG⟩
              | false =>
                have h1 : setE t L = 0 := by unfold setE; rw [hf]; simp only [hp, Bool.false_eq_true, if_false]
                have h2 : setL t L = payB t L := by unfold setL; rw [h1, if_pos rfl]
                have hwf : was = false := by
                  cases hh : was with
                  | false => rfl
                  | true => rw [h1] at hwas; exact absurd (hwas.1 hh) (by decide)
                subst hwf
                rw [h1, h2] at HST
                have GP : Hid (GoodB (payB t L) ∧ PaidOk (payB t L) (P ++ [t])) := ⟨hG.out.1.pay t, hG.out.2.pay hf⟩
                have HPL : Hid (P.length < ops.length) := by show _ < _; omega
                obtain ⟨i0, hi0, hz0, hz1, hz2⟩ := info_parts Try.info22
                clear h1 h2 hwas hf hp
                go_upto_region 21 with (go_at_call 31; (with_reducible refine Calls.mono HST.out ?_); intro y w4 ht; have k4 := ht.keep R3.out.book K3.out (by decide) (by decide) (by decide); have d1 := (seven k4).2.1; obtain ⟨v4, r4⟩ := R3.out.turn hbase ht; have R4 := Lib.hid r4; have he := ht.1; subst he; clear ht r4 k4)
                have hbx : base ≤ w4.heap.size := by have := R4.out.book.h1; have := lt_of_heap R4.out.book.bkk; omega
                go_wp2_with (at_builtin; refine wpList_append_lies _ rfl _ _ _ rfl base 22 i0 _ 1 16 Tryd.underlying31 hi0 hz0 hz1 hz2 rfl (by omega) (.slice pa P.length pc) P.length (P.map Value.string) rfl (World.ownsRow.alloc R4.out.row _) ⟨w4.heap.size, 0, none⟩ 1 1 [.string t] rfl rfl (World.news_of_block (cs := #[.string t]) (t := 22) (fr := (0, 0)) (heap_alloc_at w4 _)) (by simp [Value.oneCell']) (by omega) (by unfold maxLen; omega) (by omega) (by simp; omega) (w4.heap.size + 1) (by simp) ?_; intro g cap w8 hown2 hgrow2 hat2 hlt2; have HO2 := Lib.hid hown2; have HG2 := Lib.hid hgrow2; have HA2 := Lib.hid hat2; clear hown2 hgrow2 hat2 hlt2)
                go_meet
                exact ⟨v4, payB t L, P ++ [t], by rw [List.length_append]; simp; omega, OnceAt.push hbase R4.out HO2.out HG2.out HA2.out, GP⟩
          have e3 : (kd % 6 == 3) = false := by simpa using k3
          by_cases k4 : kd % 6 = 4
          · have e4 : (kd % 6 == 4) = true := by simpa using k4
            clear k4
            go_wp2_with (go_at_call 32; (with_reducible refine Calls.mono (prune_any base bk mm v L w3 R3.out.book n) ?_); intro y w4 ht; have R4 := R3.out.turn hbase ht; have he := ht.1; subst he; have R5 := Lib.hid R4; clear ht R4)
            go_meet
            obtain ⟨v', h5⟩ := R5.out
            exact ⟨v', _, P, by omega, h5, hG.out.1.filter _, hG.out.2.prune n⟩
          have e4 : (kd % 6 == 4) = false := by simpa using k4
          by_cases k5 : kd % 6 = 5
          · have e0 : (kd % 6 == 0) = false := by rw [k5]; decide
            have e1 : (kd % 6 == 1) = false := by rw [k5]; decide
            clear k5
            go_wp2_with fail
            go_meet
            exact ⟨v, L, P, by omega, R3, hG⟩
          · have HA : Hid (Calls Tryd.prog 33 #[.pointer (some ⟨bk, 0, none⟩), .string t, .int .i64 am, .int .i64 n, .int .i64 e, .int .i64 h, .string s] w3 fun y w' => ∃ L', BTurn base bk mm v L L' (askV L t am n e h s) w3 y w' ∧ ((askE L t am n e h s ≠ 0 ∧ L' = L) ∨ (askE L t am n e h s = 0 ∧ ∃ bb, L' = L ++ [(bb, askB t am n e h s)]))) := ask_sum base bk mm v L w3 R3.out.book t am n e h s HT.out HS.out (HL.out.below R3.out.below)
            by_cases k0 : kd % 6 = 0
            · have e0 : (kd % 6 == 0) = true := by simpa using k0
              clear k0
              go_wp2_with (go_at_call 33; (with_reducible refine Calls.mono HA.out ?_); rintro y w4 ⟨L', ht, hor⟩; have R4 := R3.out.turn hbase ht; have G4 := Lib.hid (And.intro (hG.out.1.ask hor) (hG.out.2.ask hor)); have he := ht.1; subst he; have R5 := Lib.hid R4; clear ht hor R4)
              go_meet
              obtain ⟨v', h5⟩ := R5.out
              exact ⟨v', _, P, by omega, h5, G4.out⟩
            · have e0 : (kd % 6 == 0) = false := by simpa using k0
              have e1 : (kd % 6 == 1) = true := by simp; omega
              go_wp2_with (go_at_call 33; (with_reducible refine Calls.mono HA.out ?_); rintro y w4 ⟨L', ht, hor⟩; have R4 := R3.out.turn hbase ht; have G4 := Lib.hid (And.intro (hG.out.1.ask hor) (hG.out.2.ask hor)); have he := ht.1; subst he; have R5 := Lib.hid R4; clear ht hor R4)
              go_meet
              obtain ⟨v', h5⟩ := R5.out
              exact ⟨v', _, P, by omega, h5, G4.out⟩
        case rest =>
          obtain ⟨v', L', P', hP', hX, hY⟩ := hcut
          obtain ⟨pa', pc', rfl⟩ := own_slice hX.out.row
          have hPl : P'.length ≤ 401 := by omega
          go_wp2_with fail
          go_loopw [13] (fun kv wy => ∃ (k : Nat), k ≤ P'.length ∧ kv = .int .i64 k ∧ Hid (OnceAt w wy base bk mm L' P' (.slice pa' P'.length pc') v')) (fun kv _ => P'.length - (intOf kv).toNat)
          case atStart => exact ⟨0, Nat.zero_le _, rfl, hX.out⟩
          case round =>
            obtain ⟨k, hk, rfl, hZ⟩ := hrel
            by_cases hlt' : k < P'.length
            · obtain ⟨x, hx⟩ : ∃ x, P'[k]? = some x := ⟨_, List.getElem?_eq_getElem hlt'⟩
              obtain ⟨g, cap, cur, hvv, hg, hh, _, _, _, ht⟩ := row_cellsG hZ.out.row (by omega)
              cases hvv
              have d0 : wr.cell? ⟨g, k, none⟩ = some (.string x) := by rw [cell_of_row _ _ _ _ _ _ hh]; rw [ht k (by omega), List.getElem?_map, hx]; rfl
              obtain ⟨ee, hee, hex, hep⟩ := hY.out.2.there x (List.mem_of_getElem? hx)
              have hfb : ∃ j, findB x L' 0 = some (j, ee) := by
                obtain ⟨j, hj⟩ := List.getElem?_of_mem hee
                exact ⟨0 + j, by rw [← hex]; exact findB_at hZ.out.book.uni 0 hj⟩
              obtain ⟨j, hfb⟩ := hfb
              have HBI : Hid (Calls Tryd.prog 34 #[.pointer (some ⟨bk, 0, none⟩), .string x] wr fun y w' => y = .returned (.tuple #[.agg #[.string ee.2.hash, .string ee.2.pre, .int .i64 ee.2.amt, .int .i64 ee.2.stamp, .int .i64 ee.2.exp, .int .i64 ee.2.delta, .string ee.2.memo, .bool true], .bool true]) ∧ Below wr.heap.size wr w') := by
                have := bill_any base bk mm v' L' wr hZ.out.book x
                rw [hfb] at this
                unfold gotB Bil.cells at this
                simp only [Option.map_some, Option.getD_some, Option.isSome_some, hep] at this
                exact this
              have hkl : (k : Int) < (P'.length : Int) := by omega
              clear hx hh ht hee hex hep hfb
              go_wp2_with (go_at_call 34; (with_reducible refine Calls.mono HBI.out ?_); rintro y w5 ⟨rfl, hb5⟩; have Z5 := Lib.hid (hZ.out.next hb5); clear hb5)
              go_roundw
              case rel => exact ⟨k + 1, by omega, by go_num, Z5.out.next (below_new' _ _)⟩
              case measure => simp [intOf]; omega
            · obtain rfl : k = P'.length := by omega
              go_wp2_with fail
              go_roundw
              case rel => exact ⟨i + 1, v', L', P', by omega, by omega, by go_num, hZ, hY⟩
              case measure => simp [intOf]; omega
      · obtain rfl : i = ops.length := by omega
        have LW := Lib.hid (bworks_any wr (HL.out.below hR.out.below))
        go_wp2_with (go_at_call 26; (with_reducible refine Calls.mono LW.out ?_); rintro e w9 ⟨rfl, hb9⟩; have B9 := Lib.hid hb9; clear hb9)
        go_ret
        exact ⟨rfl, hR.out.below.trans (B9.out.mono hBs)⟩
end Go.Proofs.YtnaodgljdbkmnaaDoor
