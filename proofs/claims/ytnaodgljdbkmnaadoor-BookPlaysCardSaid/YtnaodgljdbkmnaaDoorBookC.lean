/- Ask -/
import Derived.Test.YtnaodgljdbkmnaaDoorBookB
import Derived.Deep.AppendLies
namespace Go.Proofs.YtnaodgljdbkmnaaDoor
set_option linter.unusedVariables false
open Go.RowKit
def hashL (pre : ByteArray) : ByteArray := ⟨(buildL ⟨#[72]⟩ [pre]).toArray⟩
theorem hashV_yes {pre : ByteArray} (h : rt pre = true) (h' : rt (hashL pre) = true) : buildV ⟨#[72]⟩ [pre] = .tuple #[.string (hashL pre), .int .i64 0] := by
  rw [buildV_right (by intro v hv; simp at hv; subst hv; exact h)]
  exact wholeV_yes h'
theorem hashV_no {pre : ByteArray} (h : rt pre = true) (h' : rt (hashL pre) = false) : buildV ⟨#[72]⟩ [pre] = .tuple #[.string ⟨#[]⟩, .int .i64 3] := by
  rw [buildV_right (by intro v hv; simp at hv; subst hv; exact h)]
  exact wholeV_no h'
/-- what Ask tells -/
def askE (L : List Ent) (pre : ByteArray) (amt now exp delta : Int) (memo : ByteArray) : Int :=
  if rt pre = false then 10
  else if rt (hashL pre) = false ∨ 639 < (hashL pre).size then 3
  else if amt < 0 ∨ 2100000000000000000 < amt then 40
  else if now / 34359738368 ≠ 0 ∨ exp / 34359738368 ≠ 0 ∨ delta / 2147483648 ≠ 0 ∨ 639 < memo.size then 2
  else if (findB (hashL pre) L 0).isSome = true then 6
  else if 256 ≤ L.length then 3 else 0
def askB (pre : ByteArray) (amt now exp delta : Int) (memo : ByteArray) : Bil := ⟨hashL pre, pre, amt, now, exp, delta, memo, false⟩
def AskPost (base bk mm : Nat) (v : Value) (L : List Ent) (pre : ByteArray) (amt now exp delta : Int) (memo : ByteArray) (w : World) (e : Ending) (w' : World) : Prop :=
  (askE L pre amt now exp delta memo ≠ 0 ∧ BTurn base bk mm v L L (.tuple #[.string ⟨#[]⟩, .int .i64 (askE L pre amt now exp delta memo)]) w e w') ∨
  (askE L pre amt now exp delta memo = 0 ∧ ∃ bb, BTurn base bk mm v L (L ++ [(bb, askB pre amt now exp delta memo)]) (.tuple #[.string (hashL pre), .int .i64 0]) w e w')
theorem ask_no {base bk mm : Nat} {v : Value} {L : List Ent} {pre : ByteArray} {amt now exp delta : Int} {memo : ByteArray} {w : World} {e : Ending} {w' : World} {x : Int} (h : BookAt w base bk mm v L) (hx : askE L pre amt now exp delta memo = x) (h0 : x ≠ 0) (he : e = .returned (.tuple #[.string ⟨#[]⟩, .int .i64 x])) (hb : Below w.heap.size w w') : AskPost base bk mm v L pre amt now exp delta memo w e w' := by
  subst hx
  exact .inl ⟨h0, bturn_same h he hb⟩
theorem ask_put {base bk mm : Nat} {va : Option Addr} {vc : Nat} {L : List Ent} {b : Bil} {w wx : World} {es : Array MapEntry} {c : Nat} (h : BookAt w base bk mm (.slice va L.length vc) L) (hm : w.heap[mm]? = some (.map es c))
    (hwx : putO (w.alloc (.cells b.cells.toArray 58)) mm (.map (es.push ⟨.string b.hash, .pointer (some ⟨w.heap.size, 0, none⟩), c⟩) (c + 1)) = wx) :
    wx.heap.size = w.heap.size + 1 ∧ wx.heap[bk]? = some (.cells #[.map (some mm), .slice va L.length vc] 90 (0, 0)) ∧ wx.ownsRow base 22 1 (.slice va L.length vc) L.length (L.map fun e => .string e.2.hash) ∧ wx.heap[mm]? = some (.map (es.push ⟨.string b.hash, .pointer (some ⟨w.heap.size, 0, none⟩), c⟩) (c + 1)) ∧ wx.heap[w.heap.size]? = some (.cells b.cells.toArray 58 (0, 0)) ∧ Fr (Only mm) w wx := by
  have hml := lt_of_heap hm
  have hb1 := below_new8 w (.cells b.cells.toArray 58)
  have hm1 : (w.alloc (.cells b.cells.toArray 58)).heap[mm]? = some (.map es c) := (hb1.block mm hml).trans hm
  have f : Fr (Only mm) w wx := by rw [← hwx]; exact (Fr.below hb1).putO mm _ rfl
  refine ⟨by rw [← hwx]; simp, (f.block bk (lt_of_heap h.bkk) (fun e => map_not_cells hm h.bkk e.symm)).trans h.bkk, own_blocks h.own fun g hg => f.block g (h.own.lt g hg).2 (fun e => ?_), by rw [← hwx]; exact putO_same hm1, ?_, f⟩
  · have e : g = mm := e
    subst e
    rcases h.own.2 with ⟨hv, _⟩ | ⟨g', cap, cur, hv, _, hgg, _⟩
    · rw [hv] at hg; cases hg
    · rw [hv] at hg
      simp only [Value.ownBlock, Option.some.injEq] at hg
      subst hg
      rw [hm] at hgg; injection hgg with hgg; cases hgg
  · rw [← hwx, putO_other (by omega)]
    exact heap_alloc_at _ _
theorem ask_yes {base bk mm : Nat} {va : Option Addr} {vc : Nat} {L : List Ent} {b : Bil} {w w5 wx w2 : World} {es : Array MapEntry} {c g cap : Nat} (h : BookAt w base bk mm (.slice va L.length vc) L) (hB : Below w.heap.size w w5) (hm : w5.heap[mm]? = some (.map es c)) (hl : LiesB es.toList L)
    (hf : findB b.hash L 0 = none) (hlen : L.length < 256) (hok : BilOk b)
    (hwx : putO (w5.alloc (.cells b.cells.toArray 58)) mm (.map (es.push ⟨.string b.hash, .pointer (some ⟨w5.heap.size, 0, none⟩), c⟩) (c + 1)) = wx)
    (hown : w2.ownsRow base 22 1 (.slice (some ⟨g, 0, none⟩) (L.length + 1) cap) (L.length + 1) ((L.map fun e => Value.string e.2.hash) ++ [.string b.hash]))
    (hgrow : (wx.alloc (.cells #[.string b.hash] 22)).grownBy w2 (Value.slice va L.length vc).ownBlock)
    (hat : (Value.slice va L.length vc).ownBlock = some g ∨ g = wx.heap.size + 1) {x : Value} {e : Ending} (he : e = .returned x) :
    BTurn base bk mm (.slice va L.length vc) L (L ++ [(w5.heap.size, b)]) x w e (w2.setCell ⟨bk, 1, none⟩ (.slice (some ⟨g, 0, none⟩) (L.length + 1) cap)) := by
  have h5 := h.below hB
  obtain ⟨q1, q2, q3, q4, q5, q6⟩ := ask_put h5 hm hwx
  have hbx := below_new8 wx (.cells #[.string b.hash] 22)
  have n1 : (wx.alloc (.cells #[.string b.hash] 22)).heap[bk]? = some (.cells #[.map (some mm), .slice va L.length vc] 90 (0, 0)) := (hbx.block bk (lt_of_heap q2)).trans q2
  have o1 := own_below q3 hbx
  have keep : ∀ (k : Nat) (o : Obj), wx.heap[k]? = some o → (∀ gg, (Value.slice va L.length vc).ownBlock = some gg → gg ≠ k) → w2.heap[k]? = some o := fun k o hk hne =>
    (hgrow.block k (by have := lt_of_heap hk; have := hbx.size; omega) (fun e => hne k e.symm rfl)).trans ((hbx.block k (lt_of_heap hk)).trans hk)
  have kbk := keep bk _ q2 (own_ne q3 q2 (by decide))
  have kmm := keep mm _ q4 (fun gg hg e => by
    subst e
    rcases q3.2 with ⟨hv, _⟩ | ⟨g', cap', cur, hv, _, hgg, _⟩
    · rw [hv] at hg; cases hg
    · rw [hv] at hg
      simp only [Value.ownBlock, Option.some.injEq] at hg
      subst hg
      rw [q4] at hgg; injection hgg with hgg; cases hgg)
  have kbb := keep w5.heap.size _ q5 (own_ne q3 q5 (by decide))
  have hbkl := lt_of_heap h5.bkk
  have hgb : g ≠ bk := by
    rcases hat with hat | hat
    · exact own_ne q3 q2 (by decide) g hat
    · omega
  have set_o : ∀ k, k ≠ bk → (w2.setCell ⟨bk, 1, none⟩ (.slice (some ⟨g, 0, none⟩) (L.length + 1) cap)).heap[k]? = w2.heap[k]? := fun k hk => heap_setCell_other _ _ _ _ hk
  have hmb : mm ≠ bk := map_not_cells hm h5.bkk
  have hbase : base ≤ w5.heap.size := by have := h.h1; have := lt_of_heap h.bkk; have := hB.size; omega
  refine ⟨he, .slice (some ⟨g, 0, none⟩) (L.length + 1) cap, { bkk := ?_, map := ⟨es.push ⟨.string b.hash, .pointer (some ⟨w5.heap.size, 0, none⟩), c⟩, c + 1, ?_, LiesB.push hl (w5.heap.size, b) c⟩, own := ?_, bills := ?_, far := ?_, uni := ?_, few := ?_, ok := ?_, h1 := h.h1, h2 := h.h2 }, ?_, ?_⟩
  · rw [heap_setCell_same _ bk 1 _ 90 _ kbk]; rfl
  · rw [set_o mm hmb]; exact kmm
  · rw [List.length_append, List.map_append]
    exact own_blocks hown fun k hk => by
      simp only [Value.ownBlock, Option.some.injEq] at hk
      subst hk
      exact set_o _ hgb
  · intro e' he'
    rcases List.mem_append.1 he' with he' | he'
    · obtain ⟨t1, t2⟩ := h5.bills e' he'
      refine ⟨?_, t2⟩
      have l1 := lt_of_heap t1
      have t1x : wx.heap[e'.1]? = some (.cells e'.2.cells.toArray 58 (0, 0)) := (q6.block e'.1 l1 (fun e => map_not_cells hm t1 e.symm)).trans t1
      rw [set_o _ (type_ne t1 h5.bkk (by decide))]
      exact keep e'.1 _ t1x (own_ne q3 t1x (by decide))
    · rw [List.mem_singleton] at he'
      subst he'
      refine ⟨?_, hbase⟩
      rw [set_o _ (by omega)]
      exact kbb
  · rw [List.map_append, List.nodup_append]
    refine ⟨h.far, by simp, ?_⟩
    intro a ha b' hb'
    obtain ⟨e', he', rfl⟩ := List.mem_map.1 ha
    simp only [List.map_cons, List.map_nil, List.mem_singleton] at hb'
    subst hb'
    have := lt_of_heap (h5.bills e' he').1
    omega
  · rw [List.map_append, List.nodup_append]
    refine ⟨h.uni, by simp, ?_⟩
    intro a ha b' hb'
    obtain ⟨e', he', rfl⟩ := List.mem_map.1 ha
    simp only [List.map_cons, List.map_nil, List.mem_singleton] at hb'
    subst hb'
    exact findB_none.1 hf e' he'
  · rw [List.length_append]; simp; omega
  · intro e' he'
    rcases List.mem_append.1 he' with he' | he'
    · exact h.ok e' he'
    · rw [List.mem_singleton] at he'; subst he'; exact hok
  · intro k hk
    rcases hk with hk | hk | hk | hk
    · exact .inl (.inl hk)
    · exact .inl (.inr (.inl hk))
    · simp only [Value.ownBlock, Option.some.injEq] at hk
      subst hk
      rcases hat with hat | hat
      · exact .inl (.inr (.inr (.inl hat)))
      · right; have := hB.size; omega
    · rw [List.map_append] at hk
      rcases List.mem_append.1 hk with hk | hk
      · exact .inl (.inr (.inr (.inr hk)))
      · simp only [List.map_cons, List.map_nil, List.mem_singleton] at hk
        right; rw [hk]; exact hB.size
  · have f1 : Fr (BkS bk mm (.slice va L.length vc) L) w wx := (Fr.below hB).trans' q6 (fun i hi hs => .inr (.inl hs))
    have f2 : Fr (BkS bk mm (.slice va L.length vc) L) w w2 := ⟨hgrow.os.trans (hbx.os.trans f1.os), hgrow.tape.trans (hbx.tape.trans f1.tape), hgrow.output.trans (hbx.output.trans f1.output), Nat.le_trans f1.size (Nat.le_trans hbx.size hgrow.size), fun k hk hs =>
      (hgrow.block k (by have := f1.size; have := hbx.size; omega) (fun e => hs (.inr (.inr (.inl e.symm))))).trans ((hbx.block k (by have := f1.size; omega)).trans (f1.block k hk hs))⟩
    exact f2.set bk 1 _ (.inl rfl)
set_option maxRecDepth 100000 in
set_option maxHeartbeats 8000000 in
theorem ask_any (base bk mm : Nat) (v : Value) (L : List Ent) (w : World) (h : BookAt w base bk mm v L) (pre : ByteArray) (amt now exp delta : Int) (memo : ByteArray) (hp : pre.size ≤ maxLen) (hmm : memo.size ≤ maxLen) (hL : LibOk w) :
    Calls Tryd.prog 33 #[.pointer (some ⟨bk, 0, none⟩), .string pre, .int .i64 amt, .int .i64 now, .int .i64 exp, .int .i64 delta, .string memo] w (AskPost base bk mm v L pre amt now exp delta memo w) := by
  obtain ⟨va, vc, rfl⟩ := own_slice h.own
  have HS := Lib.hid h
  have HR : Hid (Calls Tryd.prog 42 #[.string pre] w fun e w' => e = .returned (.bool (rt pre)) ∧ Below w.heap.size w w') := right_any pre w hp hL
  have HL := Lib.hid hL
  have hfew := h.few
  cases hr : rt pre with
  | false =>
    rw [hr] at HR
    have HX := Lib.hid (show askE L pre amt now exp delta memo = 10 by unfold askE; rw [if_pos hr])
    clear h hL hr
    go_enter Tryd.func33, Tryd.ntmps33
    go_wp2_with (go_at_call 42; (with_reducible refine Calls.mono HR.out ?_); rintro e w1 ⟨rfl, hb1⟩; have B1 := Lib.hid hb1; clear hb1)
    go_ret2
    exact ask_no HS.out HX.out (by decide) rfl B1.out
  | true =>
    rw [hr] at HR
    have hps := right_size hr
    have HH := Lib.hid (fun W (hW : LibOk W) => hash_any pre W hp hW)
    cases hr2 : rt (hashL pre) with
    | false =>
      rw [hashV_no hr hr2] at HH
      have HX := Lib.hid (show askE L pre amt now exp delta memo = 3 by unfold askE; rw [if_neg (by rw [hr]; decide), if_pos (.inl hr2)])
      have HLK : Hid (∀ W, BookAt W base bk mm (.slice va L.length vc) L → W.cell? ⟨bk, 0, none⟩ = some (.map (some mm)) ∧ ∃ p b, (Instr.lookup 88 (.map (some mm)) (.string ⟨#[]⟩) true).run Tryd.prog W = .ok (.tuple #[p, .bool b]) W) := fun W hW => by
        obtain ⟨es, c, hm, hl⟩ := hW.map
        exact ⟨hW.cells.1, _, _, run_lookB _ es c mm L W hl hm⟩
      clear h hL hr hr2
      go_enter Tryd.func33, Tryd.ntmps33
      go_wp2_with (first
        | (go_at_call 42; (with_reducible refine Calls.mono HR.out ?_); rintro e w1 ⟨rfl, hb1⟩; have B1 := Lib.hid hb1; clear hb1)
        | (go_at_call 30; (with_reducible refine Calls.mono (HH.out _ (HL.out.below B1.out)) ?_); rintro e w2 ⟨rfl, hb2⟩; have B2 := Lib.hid (B1.out.trans (hb2.mono B1.out.size)); obtain ⟨c0, p, b, hlk⟩ := HLK.out w2 (HS.out.below B2.out); clear hb2))
      go_ret2
      exact ask_no HS.out HX.out (by decide) rfl B2.out
    | true =>
      rw [hashV_yes hr hr2] at HH
      have HNE : Hid (rt pre = true ∧ rt (hashL pre) = true) := ⟨hr, hr2⟩
      have hhs := right_size hr2
      have HHL : Hid (∀ x, askE L pre amt now exp delta memo = x ↔ (if 639 < (hashL pre).size then 3 else if amt < 0 ∨ 2100000000000000000 < amt then 40 else if now / 34359738368 ≠ 0 ∨ exp / 34359738368 ≠ 0 ∨ delta / 2147483648 ≠ 0 ∨ 639 < memo.size then 2 else if (findB (hashL pre) L 0).isSome = true then 6 else if 256 ≤ L.length then 3 else 0) = x) := fun x => by
        unfold askE
        rw [if_neg (by rw [hr]; decide)]
        simp only [hr2, Bool.true_eq_false, false_or]
      clear hr hr2 h hL
      have HB : Hid (∀ bb : Nat, (askB pre amt now exp delta memo).hash = hashL pre) := fun _ => rfl
      obtain ⟨x, hx⟩ : ∃ x, hashL pre = x := ⟨_, rfl⟩
      have HXX := Lib.hid hx
      rw [hx] at HH HHL hhs
      have HLK : Hid (∀ W, BookAt W base bk mm (.slice va L.length vc) L → W.cell? ⟨bk, 0, none⟩ = some (.map (some mm)) ∧ W.cell? ⟨bk, 1, none⟩ = some (.slice va L.length vc) ∧ (Instr.lookup 88 (.map (some mm)) (.string x) true).run Tryd.prog W = .ok (.tuple #[((findB x L 0).map fun x => x.2.ptr).getD (.pointer none), .bool (findB x L 0).isSome]) W) := fun W hW => by
        obtain ⟨es, c, hm, hl⟩ := hW.map
        exact ⟨hW.cells.1, hW.cells.2, run_lookB _ es c mm L W hl hm⟩
      clear hx
      go_enter Tryd.func33, Tryd.ntmps33
      go_upto_region 7 with (first
        | (go_at_call 42; (with_reducible refine Calls.mono HR.out ?_); rintro e w1 ⟨rfl, hb1⟩; have B1 := Lib.hid hb1; clear hb1)
        | (go_at_call 30; (with_reducible refine Calls.mono (HH.out _ (HL.out.below B1.out)) ?_); rintro e w2 ⟨rfl, hb2⟩; have B2 := Lib.hid (B1.out.trans (hb2.mono B1.out.size)); obtain ⟨c0, c1, hlk⟩ := HLK.out w2 (HS.out.below B2.out); clear hb2))
      have hhi : (x.size : Int) ≤ 16384 := by omega
      unfold maxLen at hmm
      have hmi : (memo.size : Int) ≤ 9223372036854775807 := by omega
      by_cases h639 : 639 < x.size
      · have h639i : (639 : Int) < (x.size : Int) := by omega
        have HX := Lib.hid ((HHL.out 3).2 (by rw [if_pos h639]))
        go_wp2_with fail
        go_ret2
        exact ask_no HS.out HX.out (by decide) rfl B2.out
      have h639i : (x.size : Int) ≤ 639 := by omega
      by_cases ha0 : amt < 0
      · have HX := Lib.hid ((HHL.out 40).2 (by rw [if_neg h639, if_pos (.inl ha0)]))
        go_wp2_with fail
        go_ret2
        exact ask_no HS.out HX.out (by decide) rfl B2.out
      by_cases ha1 : 2100000000000000000 < amt
      · have HX := Lib.hid ((HHL.out 40).2 (by rw [if_neg h639, if_pos (.inr ha1)]))
        have ha0' : 0 ≤ amt := by omega
        go_wp2_with fail
        go_ret2
        exact ask_no HS.out HX.out (by decide) rfl B2.out
      have ha0' : 0 ≤ amt := by omega
      have ha1' : amt ≤ 2100000000000000000 := by omega
      have hlm : (L.length : Int) ≤ 256 := by omega
      by_cases hn : now / 34359738368 = 0
      case neg =>
        have hnb : (now / 34359738368 != 0) = true := by simpa using hn
        have hnc : (now / 34359738368 == 0) = false := by simpa using hn
        have HX := Lib.hid ((HHL.out 2).2 (by rw [if_neg h639, if_neg (by omega), if_pos (.inl hn)]))
        go_wp2_with fail
        go_ret2
        exact ask_no HS.out HX.out (by decide) rfl B2.out
      have hnb : (now / 34359738368 != 0) = false := by simpa using hn
      have hnc : (now / 34359738368 == 0) = true := by simpa using hn
      by_cases he : exp / 34359738368 = 0
      case neg =>
        have heb : (exp / 34359738368 != 0) = true := by simpa using he
        have hec : (exp / 34359738368 == 0) = false := by simpa using he
        have HX := Lib.hid ((HHL.out 2).2 (by rw [if_neg h639, if_neg (by omega), if_pos (.inr (.inl he))]))
        go_wp2_with fail
        go_ret2
        exact ask_no HS.out HX.out (by decide) rfl B2.out
      have heb : (exp / 34359738368 != 0) = false := by simpa using he
      have hec : (exp / 34359738368 == 0) = true := by simpa using he
      by_cases hd : delta / 2147483648 = 0
      case neg =>
        have hdb : (delta / 2147483648 != 0) = true := by simpa using hd
        have hdc : (delta / 2147483648 == 0) = false := by simpa using hd
        have HX := Lib.hid ((HHL.out 2).2 (by rw [if_neg h639, if_neg (by omega), if_pos (.inr (.inr (.inl hd)))]))
        go_wp2_with fail
        go_ret2
        exact ask_no HS.out HX.out (by decide) rfl B2.out
      have hdb : (delta / 2147483648 != 0) = false := by simpa using hd
      have hdc : (delta / 2147483648 == 0) = true := by simpa using hd
      by_cases hme : 639 < memo.size
      · have hmei : (639 : Int) < (memo.size : Int) := by omega
        have HX := Lib.hid ((HHL.out 2).2 (by rw [if_neg h639, if_neg (by omega), if_pos (.inr (.inr (.inr hme)))]))
        go_wp2_with fail
        go_ret2
        exact ask_no HS.out HX.out (by decide) rfl B2.out
      have hmei : (memo.size : Int) ≤ 639 := by omega
      cases hf : findB x L 0 with
      | some q =>
        rw [hf] at hlk
        simp only [Option.map_some, Option.getD_some, Option.isSome_some] at hlk
        have HX := Lib.hid ((HHL.out 6).2 (by rw [if_neg h639, if_neg (by omega), if_neg (by simp only [not_or, Decidable.not_not]; exact ⟨hn, he, hd, by omega⟩), hf, if_pos (show (some q).isSome = true from rfl)]))
        unfold Ent.ptr at hlk
        go_wp2_with fail
        go_ret2
        exact ask_no HS.out HX.out (by decide) rfl B2.out
      | none =>
        rw [hf] at hlk
        simp only [Option.map_none, Option.getD_none, Option.isSome_none] at hlk
        by_cases h256 : 256 ≤ L.length
        · have h256i : (256 : Int) ≤ (L.length : Int) := by omega
          have HX := Lib.hid ((HHL.out 3).2 (by rw [if_neg h639, if_neg (by omega), if_neg (by simp only [not_or, Decidable.not_not]; exact ⟨hn, he, hd, by omega⟩), hf, if_neg (by decide), if_pos h256]))
          go_wp2_with fail
          go_ret2
          exact ask_no HS.out HX.out (by decide) rfl B2.out
        · have h256i : (L.length : Int) < 256 := by omega
          have h256n : L.length < 256 := by omega
          have HX := Lib.hid ((HHL.out 0).2 (by rw [if_neg h639, if_neg (by omega), if_neg (by simp only [not_or, Decidable.not_not]; exact ⟨hn, he, hd, by omega⟩), hf, if_neg (by decide), if_neg h256]))
          have hok : BilOk (askB pre amt now exp delta memo) := ⟨ha0', ha1', by show 0 ≤ now; omega, by show now < 34359738368; omega, by show 0 ≤ exp; omega, by show exp < 34359738368; omega, by show 0 ≤ delta; omega, by show delta < 2147483648; omega, by show (hashL pre).size ≤ 639; rw [HXX.out]; omega, hps, by show memo.size ≤ 639; omega⟩
          have hcs : (askB pre amt now exp delta memo).cells = [.string x, .string pre, .int .i64 amt, .int .i64 now, .int .i64 exp, .int .i64 delta, .string memo, .bool false] := by unfold askB Bil.cells; rw [HXX.out]
          have hhx : (askB pre amt now exp delta memo).hash = x := HXX.out
          obtain ⟨bb, hbb⟩ : ∃ bb, askB pre amt now exp delta memo = bb := ⟨_, rfl⟩
          rw [hbb] at hok hcs hhx
          have HBB := Lib.hid hbb
          have HOK := Lib.hid hok
          have HCS := Lib.hid hcs
          have HHX := Lib.hid hhx
          have HF := Lib.hid hf
          clear hbb hok hcs hhx
          go_upto_region 17 with fail
          have h2 := HS.out.below B2.out
          obtain ⟨es, c, hm, hl⟩ := h2.map
          have hm2 := ((below_new8 w2 (.cells #[.string x, .string pre, .int .i64 amt, .int .i64 now, .int .i64 exp, .int .i64 delta, .string memo, .bool false] 58)).block mm (lt_of_heap hm)).trans hm
          have hup := run_updB x (.pointer (some ⟨w2.heap.size, 0, none⟩)) es c mm L _ hl hm2 hf
          have HM := Lib.hid hm
          have HLI := Lib.hid hl
          clear h2 hm hl hm2 hf
          go_upto_region 18 with fail
          obtain ⟨wx, hwx⟩ : ∃ wx, putO (w2.alloc (.cells #[.string x, .string pre, .int .i64 amt, .int .i64 now, .int .i64 exp, .int .i64 delta, .string memo, .bool false] 58)) mm (.map (es.push ⟨.string x, .pointer (some ⟨w2.heap.size, 0, none⟩), c⟩) (c + 1)) = wx := ⟨_, rfl⟩
          rw [hwx]
          have hwx2 : putO (w2.alloc (.cells bb.cells.toArray 58)) mm (.map (es.push ⟨.string bb.hash, .pointer (some ⟨w2.heap.size, 0, none⟩), c⟩) (c + 1)) = wx := by rw [HCS.out, HHX.out]; exact hwx
          have HWX := Lib.hid hwx2
          obtain ⟨q1, q2, q3, q4, q5, q6⟩ := ask_put (HS.out.below B2.out) HM.out hwx2
          have c1x : wx.cell? ⟨bk, 1, none⟩ = some (.slice va L.length vc) := by rw [cell_of_row _ _ _ _ _ _ q2]; rfl
          have Q2 := Lib.hid q2
          have Q3 := Lib.hid q3
          have hbx : base ≤ wx.heap.size := by have := HS.out.h1; have := lt_of_heap HS.out.bkk; have := B2.out.size; omega
          obtain ⟨i0, hi0, hz0, hz1, hz2⟩ := info_parts Try.info22
          clear hup hlk c0 c1 hwx hwx2 q1 q2 q3 q4 q5 q6
          go_wp2_with (at_builtin; refine wpList_append_lies _ rfl _ _ _ rfl base 22 i0 _ 1 16 Tryd.underlying31 hi0 hz0 hz1 hz2 rfl (by omega) (.slice va L.length vc) L.length (L.map fun e => Value.string e.2.hash) rfl (World.ownsRow.alloc Q3.out _) ⟨wx.heap.size, 0, none⟩ 1 1 [.string x] rfl rfl (World.news_of_block (cs := #[.string x]) (t := 22) (fr := (0, 0)) (heap_alloc_at wx _)) (by simp [Value.oneCell']) (by omega) (by unfold maxLen; omega) (by omega) (by simp; omega) (wx.heap.size + 1) (by simp) ?_; intro g cap w8 hown2 hgrow2 hat2 hlt2; have HO := Lib.hid hown2; have HG := Lib.hid hgrow2; have HA := Lib.hid hat2; have hb8 : w8.heap[bk]? = some (.cells #[.map (some mm), .slice va L.length vc] 90 (0, 0)) := (hgrow2.block bk (by have := lt_of_heap Q2.out; simp; omega) (fun e => own_ne Q3.out Q2.out (by decide) bk e.symm rfl)).trans (((below_new8 wx (.cells #[.string x] 22)).block bk (lt_of_heap Q2.out)).trans Q2.out); have c8 : w8.cell? ⟨bk, 1, none⟩ = some (.slice va L.length vc) := (by rw [cell_of_row _ _ _ _ _ _ hb8]; rfl); have f8 := frozen_of_row _ _ 1 _ _ hb8; clear hown2 hgrow2 hat2 hb8)
          go_ret2
          refine .inr ⟨HX.out, w2.heap.size, ?_⟩
          rw [HBB.out, HXX.out]
          have HO' := HO.out
          have HG' := HG.out
          rw [← HHX.out] at HO' HG'
          exact ask_yes HS.out B2.out HM.out HLI.out (by rw [HHX.out]; exact HF.out) h256n HOK.out HWX.out HO' HG' HA.out rfl
end Go.Proofs.YtnaodgljdbkmnaaDoor
