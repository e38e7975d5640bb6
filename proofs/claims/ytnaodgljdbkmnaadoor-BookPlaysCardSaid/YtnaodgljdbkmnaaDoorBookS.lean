/- the document's Ask, Prune -/
import Derived.Test.YtnaodgljdbkmnaaDoorBookR
import Derived.Test.YtnaodgljdbkmnaaDoorBookC
import Derived.Deep.AppendLies
namespace Go.Proofs.YtnaodgljdbkmnaaDoor
set_option linter.unusedVariables false
open Go.RowKit
theorem own_neT {w : World} {base t u size n b : Nat} {v : Value} {xs : List Value} {cs : Array Value} {fr : Nat × Nat} (h : w.ownsRow base t size v n xs) (hb : w.heap[b]? = some (.cells cs u fr)) (ht : u ≠ t) : ∀ g, v.ownBlock = some g → g ≠ b := by
  intro g hg e
  subst e
  rcases h.2 with ⟨hv, _⟩ | ⟨g', cap', cur, hv, _, hgg, _⟩
  · rw [hv] at hg; cases hg
  · rw [hv] at hg
    simp only [Value.ownBlock, Option.some.injEq] at hg
    subst hg
    rw [hb] at hgg
    injection hgg with hgg
    injection hgg with _ h2 _
    exact ht h2
/-- what a call has laid is stored into the document's book -/
theorem dbook_store {base db : Nat} {v vn : Value} {L L' : List Ent} {w w3 : World} (h : DBookAt w base db v L) (hF : Fr (fun k => v.ownBlock = some k) w w3) (hown : w3.ownsRow base 101 8 vn L'.length (billCells L')) :
    w3.heap[db]? = some (.cells #[v] 69 (0, 0)) ∧ DBookAt (w3.setCell ⟨db, 0, none⟩ vn) base db vn L' ∧ Fr (fun k => k = db ∨ v.ownBlock = some k) w (w3.setCell ⟨db, 0, none⟩ vn) := by
  have k1 : w3.heap[db]? = some (.cells #[v] 69 (0, 0)) := (hF.block db (lt_of_heap h.dbk) (fun e => own_neT h.own h.dbk (by decide) db e rfl)).trans h.dbk
  refine ⟨k1, ⟨?_, own_blocks hown (fun g hg => heap_setCell_other _ _ _ _ (own_neT hown k1 (by decide) g hg)), h.h1⟩, (hF.weak (fun k _ hs => .inr hs)).set db 0 _ (.inl rfl)⟩
  rw [heap_setCell_same _ db 0 _ 69 _ k1]; rfl
theorem fr_grown {w w2 w3 : World} {v : Value} (hB : Below w.heap.size w w2) (hg : w2.grownBy w3 v.ownBlock) : Fr (fun k => v.ownBlock = some k) w w3 :=
  ⟨hg.os.trans hB.os, hg.tape.trans hB.tape, hg.output.trans hB.output, Nat.le_trans hB.size hg.size, fun k hk hs => (hg.block k (Nat.lt_of_lt_of_le hk hB.size) (fun e => hs e.symm)).trans (hB.block k hk)⟩
def DAskPost (base db : Nat) (v : Value) (L : List Ent) (pre : ByteArray) (amt now exp delta : Int) (memo : ByteArray) (w : World) (e : Ending) (w' : World) : Prop :=
  (askE L pre amt now exp delta memo ≠ 0 ∧ DTurn base db v L L (.tuple #[.string ⟨#[]⟩, .int .i64 (askE L pre amt now exp delta memo)]) w e w') ∨
  (askE L pre amt now exp delta memo = 0 ∧ ∀ bb, DTurn base db v L (L ++ [(bb, askB pre amt now exp delta memo)]) (.tuple #[.string (hashL pre), .int .i64 0]) w e w')
theorem dask_no {base db : Nat} {v : Value} {L : List Ent} {pre : ByteArray} {amt now exp delta : Int} {memo : ByteArray} {w : World} {e : Ending} {w' : World} {x : Int} (h : DBookAt w base db v L) (hx : askE L pre amt now exp delta memo = x) (h0 : x ≠ 0) (he : e = .returned (.tuple #[.string ⟨#[]⟩, .int .i64 x])) (hb : Below w.heap.size w w') : DAskPost base db v L pre amt now exp delta memo w e w' := by
  subst hx
  exact .inl ⟨h0, dturn_same h he hb⟩
theorem Tryd.parts101 : (Tryd.prog.info? 101).map (fun i => (i.zero, i.size, i.bytes)) = some (some (.agg #[.string ⟨#[]⟩, .string ⟨#[]⟩, .int .i64 0, .int .i64 0, .int .i64 0, .int .i64 0, .string ⟨#[]⟩, .bool false]), 8, 88) := by kernel_rfl
theorem askB_row {L : List Ent} {pre memo x : ByteArray} {amt now exp delta : Int} {bb : Nat} {w : World} {base g cap : Nat} (hx : hashL pre = x) (h : w.ownsRow base 101 8 (.slice (some ⟨g, 0, none⟩) (L.length + 1) cap) (L.length + 1) (billCells L ++ [.string x, .string pre, .int .i64 amt, .int .i64 now, .int .i64 exp, .int .i64 delta, .string memo, .bool false])) :
    w.ownsRow base 101 8 (.slice (some ⟨g, 0, none⟩) (L.length + 1) cap) (L ++ [(bb, askB pre amt now exp delta memo)]).length (billCells (L ++ [(bb, askB pre amt now exp delta memo)])) := by
  rw [billCells_snoc, List.length_append]
  subst hx
  exact h
set_option maxRecDepth 100000 in
set_option maxHeartbeats 16000000 in
theorem dask_any (base db : Nat) (v : Value) (L : List Ent) (w : World) (h : DBookAt w base db v L) (hn : Nice L) (pre : ByteArray) (amt now exp delta : Int) (memo : ByteArray) (hp : pre.size ≤ maxLen) (hmm : memo.size ≤ maxLen) :
    Calls Tryd.prog 60 #[.pointer (some ⟨db, 0, none⟩), .string pre, .int .i64 amt, .int .i64 now, .int .i64 exp, .int .i64 delta, .string memo] w (DAskPost base db v L pre amt now exp delta memo w) := by
  obtain ⟨va, vc, rfl⟩ := own_slice h.own
  have HS := Lib.hid h
  have HR : Hid (Calls Tryd.prog 44 #[.string pre] w fun e w' => e = .returned (.bool (rt pre)) ∧ Below w.heap.size w w') := rright_any pre w hp
  have hfew := hn.few
  cases hr : rt pre with
  | false =>
    rw [hr] at HR
    have HX := Lib.hid (show askE L pre amt now exp delta memo = 10 by unfold askE; rw [if_pos hr])
    clear h hr hn
    go_enter Tryd.func60, Tryd.ntmps60
    go_wp2_with (go_at_call 44; (with_reducible refine Calls.mono HR.out ?_); rintro e w1 ⟨rfl, hb1⟩; have B1 := Lib.hid hb1; clear hb1)
    go_ret2
    exact dask_no HS.out HX.out (by decide) rfl B1.out
  | true =>
    rw [hr] at HR
    have hps := right_size hr
    have HH : Hid (∀ W, Calls Tryd.prog 75 #[.int .u8 72, .string pre] W fun e w' => e = .returned (buildV ⟨#[72]⟩ [pre]) ∧ Below W.heap.size W w') := fun W => rone_any 72 pre W hp
    cases hr2 : rt (hashL pre) with
    | false =>
      rw [hashV_no hr hr2] at HH
      have HX := Lib.hid (show askE L pre amt now exp delta memo = 3 by unfold askE; rw [if_neg (by rw [hr]; decide), if_pos (.inl hr2)])
      clear h hr hr2 hn
      go_enter Tryd.func60, Tryd.ntmps60
      go_wp2_with (first
        | (go_at_call 44; (with_reducible refine Calls.mono HR.out ?_); rintro e w1 ⟨rfl, hb1⟩; have B1 := Lib.hid hb1; clear hb1)
        | (go_at_call 75; (with_reducible refine Calls.mono (HH.out _) ?_); rintro e w2 ⟨rfl, hb2⟩; have B2 := Lib.hid (B1.out.trans (hb2.mono B1.out.size)); clear hb2))
      go_ret2
      exact dask_no HS.out HX.out (by decide) rfl B2.out
    | true =>
      rw [hashV_yes hr hr2] at HH
      have hhs := right_size hr2
      have HHL : Hid (∀ x, askE L pre amt now exp delta memo = x ↔ (if 639 < (hashL pre).size then 3 else if amt < 0 ∨ 2100000000000000000 < amt then 40 else if now / 34359738368 ≠ 0 ∨ exp / 34359738368 ≠ 0 ∨ delta / 2147483648 ≠ 0 ∨ 639 < memo.size then 2 else if (findB (hashL pre) L 0).isSome = true then 6 else if 256 ≤ L.length then 3 else 0) = x) := fun x => by
        unfold askE
        rw [if_neg (by rw [hr]; decide)]
        simp only [hr2, Bool.true_eq_false, false_or]
      clear hr hr2
      obtain ⟨x, hx⟩ : ∃ x, hashL pre = x := ⟨_, rfl⟩
      have HXX := Lib.hid hx
      rw [hx] at HH HHL hhs
      have HFD : Hid (∀ W, Below w.heap.size w W → Calls Tryd.prog 73 #[.pointer (some ⟨db, 0, none⟩), .string x] W fun e w' => e = .returned (.int .i64 (idxI (findB x L 0))) ∧ Below W.heap.size W w') := fun W hW => dfind_any base db _ L W (h.below hW) hn x
      clear hx h hn
      have hhi : (x.size : Int) ≤ 16384 := by omega
      unfold maxLen at hmm
      have hmi : (memo.size : Int) ≤ 9223372036854775807 := by omega
      have hlm : (L.length : Int) ≤ 256 := by omega
      go_enter Tryd.func60, Tryd.ntmps60
      go_upto_region 4 with (first
        | (go_at_call 44; (with_reducible refine Calls.mono HR.out ?_); rintro e w1 ⟨rfl, hb1⟩; have B1 := Lib.hid hb1; clear hb1)
        | (go_at_call 75; (with_reducible refine Calls.mono (HH.out _) ?_); rintro e w2 ⟨rfl, hb2⟩; have B2 := Lib.hid (B1.out.trans (hb2.mono B1.out.size)); clear hb2))
      by_cases h639 : 639 < x.size
      · have h639i : (639 : Int) < (x.size : Int) := by omega
        have HX := Lib.hid ((HHL.out 3).2 (by rw [if_pos h639]))
        go_wp2_with fail
        go_ret2
        exact dask_no HS.out HX.out (by decide) rfl B2.out
      have h639i : (x.size : Int) ≤ 639 := by omega
      by_cases h0 : amt < 0
      · have HX := Lib.hid ((HHL.out 40).2 (by rw [if_neg h639, if_pos (by omega)]))
        go_wp2_with fail
        go_ret2
        exact dask_no HS.out HX.out (by decide) rfl B2.out
      have c0 : 0 ≤ amt := by omega
      clear h0
      by_cases h1 : 2100000000000000000 < amt
      · have HX := Lib.hid ((HHL.out 40).2 (by rw [if_neg h639, if_pos (by omega)]))
        go_wp2_with fail
        go_ret2
        exact dask_no HS.out HX.out (by decide) rfl B2.out
      have c1 : amt ≤ 2100000000000000000 := by omega
      clear h1
      by_cases h2 : now < 0
      · have HX := Lib.hid ((HHL.out 2).2 (by rw [if_neg h639, if_neg (by omega), if_pos (by omega)]))
        go_wp2_with fail
        go_ret2
        exact dask_no HS.out HX.out (by decide) rfl B2.out
      have c2 : 0 ≤ now := by omega
      clear h2
      by_cases h3 : 34359738368 ≤ now
      · have HX := Lib.hid ((HHL.out 2).2 (by rw [if_neg h639, if_neg (by omega), if_pos (by omega)]))
        go_wp2_with fail
        go_ret2
        exact dask_no HS.out HX.out (by decide) rfl B2.out
      have c3 : now < 34359738368 := by omega
      clear h3
      by_cases h4 : exp < 0
      · have HX := Lib.hid ((HHL.out 2).2 (by rw [if_neg h639, if_neg (by omega), if_pos (by omega)]))
        go_wp2_with fail
        go_ret2
        exact dask_no HS.out HX.out (by decide) rfl B2.out
      have c4 : 0 ≤ exp := by omega
      clear h4
      by_cases h5 : 34359738368 ≤ exp
      · have HX := Lib.hid ((HHL.out 2).2 (by rw [if_neg h639, if_neg (by omega), if_pos (by omega)]))
        go_wp2_with fail
        go_ret2
        exact dask_no HS.out HX.out (by decide) rfl B2.out
      have c5 : exp < 34359738368 := by omega
      clear h5
      by_cases h6 : delta < 0
      · have HX := Lib.hid ((HHL.out 2).2 (by rw [if_neg h639, if_neg (by omega), if_pos (by omega)]))
        go_wp2_with fail
        go_ret2
        exact dask_no HS.out HX.out (by decide) rfl B2.out
      have c6 : 0 ≤ delta := by omega
      clear h6
      by_cases h7 : 2147483648 ≤ delta
      · have HX := Lib.hid ((HHL.out 2).2 (by rw [if_neg h639, if_neg (by omega), if_pos (by omega)]))
        go_wp2_with fail
        go_ret2
        exact dask_no HS.out HX.out (by decide) rfl B2.out
      have c7 : delta < 2147483648 := by omega
      clear h7
      by_cases h8 : 639 < memo.size
      · have HX := Lib.hid ((HHL.out 2).2 (by rw [if_neg h639, if_neg (by omega), if_pos (by omega)]))
        have h8i : (639 : Int) < (memo.size : Int) := by omega
        go_wp2_with fail
        go_ret2
        exact dask_no HS.out HX.out (by decide) rfl B2.out
      have c8 : (memo.size : Int) ≤ 639 := by omega
      clear h8
      have hok : BilOk (askB pre amt now exp delta memo) := ⟨c0, c1, c2, c3, c4, c5, c6, c7, by show (hashL pre).size ≤ 639; rw [HXX.out]; omega, hps, by show memo.size ≤ 639; omega⟩
      cases hf : findB x L 0 with
      | some q =>
        obtain ⟨j, e⟩ := q
        rw [hf] at HFD
        have HX := Lib.hid ((HHL.out 6).2 (by rw [if_neg h639, if_neg (by omega), if_neg (by omega), hf, if_pos (show (some (j, e)).isSome = true from rfl)]))
        unfold idxI at HFD
        simp only at HFD
        go_wp2_with (go_at_call 73; (with_reducible refine Calls.mono (HFD.out _ B2.out) ?_); rintro e w3 ⟨rfl, hb3⟩; have B3 := Lib.hid (B2.out.trans (hb3.mono B2.out.size)); clear hb3)
        go_ret2
        exact dask_no HS.out HX.out (by decide) rfl B3.out
      | none =>
        rw [hf] at HFD
        unfold idxI at HFD
        simp only at HFD
        by_cases h256 : 256 ≤ L.length
        · have h256i : (256 : Int) ≤ (L.length : Int) := by omega
          have HX := Lib.hid ((HHL.out 3).2 (by rw [if_neg h639, if_neg (by omega), if_neg (by omega), hf, if_neg (by decide), if_pos h256]))
          go_wp2_with (go_at_call 73; (with_reducible refine Calls.mono (HFD.out _ B2.out) ?_); rintro e w3 ⟨rfl, hb3⟩; have B3 := Lib.hid (B2.out.trans (hb3.mono B2.out.size)); have d0 := (HS.out.below B3.out).cell; clear hb3)
          go_ret2
          exact dask_no HS.out HX.out (by decide) rfl B3.out
        · have h256i : (L.length : Int) < 256 := by omega
          have HX := Lib.hid ((HHL.out 0).2 (by rw [if_neg h639, if_neg (by omega), if_neg (by omega), hf, if_neg (by decide), if_neg h256]))
          have HF := Lib.hid hf
          have HOK := Lib.hid hok
          clear hf hok
          obtain ⟨i0, hi0, hz0, hz1, hz2⟩ := info_parts Tryd.parts101
          go_upto_region 14 with (go_at_call 73; (with_reducible refine Calls.mono (HFD.out _ B2.out) ?_); rintro e w3 ⟨rfl, hb3⟩; have B3 := Lib.hid (B2.out.trans (hb3.mono B2.out.size)); have d0 := (HS.out.below B3.out).cell; clear hb3)
          have S3 := Lib.hid (HS.out.below B3.out)
          have hb3 : base ≤ w3.heap.size := by have := S3.out.h1; have := lt_of_heap S3.out.dbk; omega
          go_wp2_with (at_builtin; refine wpList_append_lies _ rfl _ _ _ rfl base 101 i0 _ 8 88 Tryd.underlying67 hi0 hz0 hz1 hz2 rfl (by omega) (.slice va L.length vc) L.length (billCells L) rfl (World.ownsRow.alloc S3.out.own _) ⟨w3.heap.size, 0, none⟩ 1 1 [.string x, .string pre, .int .i64 amt, .int .i64 now, .int .i64 exp, .int .i64 delta, .string memo, .bool false] rfl rfl (World.news_of_block (cs := #[.string x, .string pre, .int .i64 amt, .int .i64 now, .int .i64 exp, .int .i64 delta, .string memo, .bool false]) (t := 101) (fr := (0, 0)) (heap_alloc_at w3 _)) (by simp [Value.oneCell']) (by omega) (by unfold maxLen; omega) (by omega) (by simp; omega) (w3.heap.size + 1) (by simp) ?_; intro g cap w8 hown2 hgrow2 hat2 hlt2; have HO := Lib.hid hown2; have HA := Lib.hid hat2; have HFR : Hid (Fr (fun k => (Value.slice va L.length vc).ownBlock = some k) w w8) := fr_grown (B3.out.trans ((below_new' w3 _).mono B3.out.size)) hgrow2; have k8 : w8.heap[db]? = some (.cells #[.slice va L.length vc] 69 (0, 0)) := (HFR.out.block db (lt_of_heap HS.out.dbk) (fun e => own_neT HS.out.own HS.out.dbk (by decide) db e rfl)).trans HS.out.dbk; have c8 : w8.cell? ⟨db, 0, none⟩ = some (.slice va L.length vc) := (by rw [cell_of_row _ _ _ _ _ _ k8]; rfl); have f8 := frozen_of_row _ _ 0 _ _ k8; clear hown2 hgrow2 hat2 k8)
          go_ret2
          refine .inr ⟨HX.out, fun bb => ?_⟩
          have hS := dbook_store HS.out HFR.out (askB_row (bb := bb) HXX.out HO.out)
          refine ⟨by rw [HXX.out]; rfl, _, hS.2.1, fun k hk => ?_, hS.2.2⟩
          simp only [Value.ownBlock, Option.some.injEq] at hk
          subst hk
          rcases HA.out with hA | hA
          · exact .inl hA
          · right; have := B3.out.size; omega
set_option maxRecDepth 100000 in
set_option maxHeartbeats 16000000 in
theorem dprune_any (base db : Nat) (v : Value) (L : List Ent) (w : World) (h : DBookAt w base db v L) (hn : Nice L) (hbw : base ≤ w.heap.size) (now : Int) : Calls Tryd.prog 56 #[.pointer (some ⟨db, 0, none⟩), .int .i64 now] w (DTurn base db v L (L.filter (kp now)) (.int .i64 ((L.length : Int) - ((L.filter (kp now)).length : Int))) w) := by
  obtain ⟨va, vc, rfl⟩ := own_slice h.own
  have d0 := h.cell
  have HH := Lib.hid h
  have HN := Lib.hid hn
  have hfew := hn.few
  have HFL : Hid (kept now L L.length = L.filter (kp now)) := by show kept now L L.length = _; unfold kept; rw [List.take_length]
  have HKL : Hid (∀ k, (kept now L k).length ≤ k) := fun k => kept_le now L k
  clear h hn
  obtain ⟨i0, hi0, hz0, hz1, hz2⟩ := info_parts Tryd.parts101
  go_enter Tryd.func56, Tryd.ntmps56
  go_wp2
  go_loopw [5, 6] (fun ov iv wr => ∃ (k n : Nat) (a0 : Option Addr) (c0 : Nat), k ≤ L.length ∧ n ≤ k ∧ iv = .int .i64 k ∧ ov = .slice a0 n c0 ∧ n = (kept now L k).length ∧ Hid (wr.ownsRow w.heap.size 101 8 (.slice a0 n c0) n (billCells (kept now L k))) ∧ Hid (Below w.heap.size w wr)) (fun _ iv _ => L.length - (intOf iv).toNat)
  case atStart => exact ⟨0, 0, none, 0, Nat.zero_le _, Nat.zero_le _, rfl, rfl, rfl, World.ownsRow_nil _ _ _ _, Below.refl _ _⟩
  case round =>
    obtain ⟨k, n, a0, c0, hk, hnk, rfl, rfl, hkn, hown, hB⟩ := hrel
    have HKN := Lib.hid hkn
    have hBs := hB.out.size
    have e1 := cell_later hB.out d0
    clear hkn
    by_cases hlt : k < L.length
    · obtain ⟨e, he⟩ : ∃ e, L[k]? = some e := ⟨_, List.getElem?_eq_getElem hlt⟩
      obtain ⟨g, cap, hvv, hr, _, hc7, _⟩ := (HH.out.below hB.out).bill he
      cases hvv
      have HRG := Lib.hid hr
      have hok : BilOk e.2 := HN.out.ok _ (List.mem_of_getElem? he)
      have hkl : (k : Int) < (L.length : Int) := by omega
      have HKS := Lib.hid (kept_succ (now := now) he)
      have hlen : (billCells (kept now L k)).length = n * 8 := hown.out.1
      have HLEN := Lib.hid hlen
      have HLT : Hid (∀ W : World, Calls Tryd.prog 74 #[.agg #[.string e.2.hash, .string e.2.pre, .int .i64 e.2.amt, .int .i64 e.2.stamp, .int .i64 e.2.exp, .int .i64 e.2.delta, .string e.2.memo, .bool e.2.paid], .int .i64 now] W fun y w' => y = .returned (.bool (lateB e.2 now)) ∧ Below W.heap.size W w') := fun W => dlate_any e.2 hok now W
      have HE := Lib.hid he
      clear he hr hok hlen
      rcases Bool.eq_false_or_eq_true e.2.paid with hp | hp
      · have hkp : kp now e = true := by unfold kp; rw [hp]; rfl
        rw [hkp, if_pos rfl] at HKS
        rw [hp] at hc7
        have HP := Lib.hid hp
        clear hkp HLT hp
        have own1 := hown
        go_wp2_with (first
          | (refine wpList_load_mid rfl 101 (.tmp 44) rfl g (k * 8) rfl [.string e.2.hash, .string e.2.pre, .int .i64 e.2.amt, .int .i64 e.2.stamp, .int .i64 e.2.exp, .int .i64 e.2.delta, .string e.2.memo, .bool e.2.paid] _ HRG.out Tryd.underlying101 rfl (by kernel_rfl) ?_)
          | (refine wpList_load_mid rfl 101 (.tmp 43) rfl g (k * 8) rfl [.string e.2.hash, .string e.2.pre, .int .i64 e.2.amt, .int .i64 e.2.stamp, .int .i64 e.2.exp, .int .i64 e.2.delta, .string e.2.memo, .bool e.2.paid] _ HRG.out Tryd.underlying101 rfl (by kernel_rfl) ?_)
          | (at_builtin; refine wpList_append_lies _ rfl _ _ _ rfl w.heap.size 101 i0 _ 8 88 Tryd.underlying67 hi0 hz0 hz1 hz2 rfl (by omega) (.slice a0 n c0) n (billCells (kept now L k)) rfl (World.ownsRow.alloc own1.out _) ⟨wr.heap.size, 0, none⟩ 1 1 [.string e.2.hash, .string e.2.pre, .int .i64 e.2.amt, .int .i64 e.2.stamp, .int .i64 e.2.exp, .int .i64 e.2.delta, .string e.2.memo, .bool e.2.paid] rfl rfl (World.news_of_block (cs := #[.string e.2.hash, .string e.2.pre, .int .i64 e.2.amt, .int .i64 e.2.stamp, .int .i64 e.2.exp, .int .i64 e.2.delta, .string e.2.memo, .bool e.2.paid]) (t := 101) (fr := (0, 0)) (heap_alloc_at wr _)) (by simp [Value.oneCell']) (by omega) (by unfold maxLen; omega) (by omega) (by simp; omega) (wr.heap.size + 1) (by simp) ?_; intro g2 cap2 w7 hown7 hgrow7 hat7 hlt7; have HG7 := Lib.hid hgrow7; have HO7 := Lib.hid hown7; clear hgrow7 hown7 hat7))
        go_roundw
        case rel =>
          refine ⟨k + 1, n + 1, _, _, by omega, by omega, by go_num, rfl, ?_, ?_, ?_⟩
          · rw [HKS.out, List.length_append, ← HKN.out]; rfl
          · have := HO7.out
            rw [HKS.out, billCells_snoc]; exact this
          · exact (hB.out.alloc hBs _).grown HG7.out (by simp; omega) (fun g hg => (own1.out.lt g hg).1)
        case measure => simp [intOf]; omega
      · have q0 : wr.cell? ⟨g, k * 8, none⟩ = some (.string e.2.hash) := HRG.out 0 _ rfl
        have q1 : wr.cell? ⟨g, k * 8 + 1, none⟩ = some (.string e.2.pre) := HRG.out 1 _ rfl
        have q2 : wr.cell? ⟨g, k * 8 + 2, none⟩ = some (.int .i64 e.2.amt) := HRG.out 2 _ rfl
        have q3 : wr.cell? ⟨g, k * 8 + 3, none⟩ = some (.int .i64 e.2.stamp) := HRG.out 3 _ rfl
        have q4 : wr.cell? ⟨g, k * 8 + 4, none⟩ = some (.int .i64 e.2.exp) := HRG.out 4 _ rfl
        have q5 : wr.cell? ⟨g, k * 8 + 5, none⟩ = some (.int .i64 e.2.delta) := HRG.out 5 _ rfl
        have q6 : wr.cell? ⟨g, k * 8 + 6, none⟩ = some (.string e.2.memo) := HRG.out 6 _ rfl
        have HQ := Lib.hid hc7
        rw [hp] at hc7
        rcases Bool.eq_false_or_eq_true (lateB e.2 now) with hl | hl
        · have hkp : kp now e = false := by unfold kp; rw [hp, hl]; rfl
          rw [hkp, if_neg (by decide), List.append_nil] at HKS
          rw [hl, hp] at HLT
          have HP := Lib.hid hp
          clear hkp hp
          go_wp2_with (first
            | (go_at_call 74; (with_reducible refine Calls.mono (HLT.out _) ?_); rintro y w5 ⟨rfl, hb5⟩; have B5 := Lib.hid hb5; clear hb5))
          go_roundw
          case rel =>
            refine ⟨k + 1, n, a0, c0, by omega, by omega, by go_num, rfl, ?_, ?_, hB.out.trans (B5.out.mono hBs)⟩
            · rw [HKS.out]; exact HKN.out
            · rw [HKS.out]; exact own_below hown.out B5.out
          case measure => simp [intOf]; omega
        · have hkp : kp now e = true := by unfold kp; rw [hp, hl]; rfl
          rw [hkp, if_pos rfl] at HKS
          rw [hl, hp] at HLT
          have HP := Lib.hid hp
          clear hkp hp
          go_wp2_with (first
            | (go_at_call 74; (with_reducible refine Calls.mono (HLT.out _) ?_); rintro y w5 ⟨rfl, hb5⟩; have B5 := Lib.hid hb5; have own5 := Lib.hid (own_below hown.out hb5); have z5 := hb5.size; have e5 := cell_later hb5 e1; have p0 := cell_later hb5 q0; have p1 := cell_later hb5 q1; have p2 := cell_later hb5 q2; have p3 := cell_later hb5 q3; have p4 := cell_later hb5 q4; have p5 := cell_later hb5 q5; have p6 := cell_later hb5 q6; have p7 := cell_later hb5 hc7; clear hb5)
            | (at_builtin; refine wpList_append_lies _ rfl _ _ _ rfl w.heap.size 101 i0 _ 8 88 Tryd.underlying67 hi0 hz0 hz1 hz2 rfl (by omega) (.slice a0 n c0) n (billCells (kept now L k)) rfl (World.ownsRow.alloc own5.out _) ⟨w5.heap.size, 0, none⟩ 1 1 [.string e.2.hash, .string e.2.pre, .int .i64 e.2.amt, .int .i64 e.2.stamp, .int .i64 e.2.exp, .int .i64 e.2.delta, .string e.2.memo, .bool false] rfl rfl (World.news_of_block (cs := #[.string e.2.hash, .string e.2.pre, .int .i64 e.2.amt, .int .i64 e.2.stamp, .int .i64 e.2.exp, .int .i64 e.2.delta, .string e.2.memo, .bool false]) (t := 101) (fr := (0, 0)) (heap_alloc_at w5 _)) (by simp [Value.oneCell']) (by omega) (by unfold maxLen; omega) (by omega) (by simp; omega) (w5.heap.size + 1) (by simp) ?_; intro g2 cap2 w7 hown7 hgrow7 hat7 hlt7; have HG7 := Lib.hid hgrow7; have HO7 := Lib.hid hown7; clear hgrow7 hown7 hat7))
          go_roundw
          case rel =>
            refine ⟨k + 1, n + 1, _, _, by omega, by omega, by go_num, rfl, ?_, ?_, ?_⟩
            · rw [HKS.out, List.length_append, ← HKN.out]; rfl
            · have := HO7.out
              rw [HKS.out, billCells_snoc, show e.2.cells = [.string e.2.hash, .string e.2.pre, .int .i64 e.2.amt, .int .i64 e.2.stamp, .int .i64 e.2.exp, .int .i64 e.2.delta, .string e.2.memo, .bool false] by unfold Bil.cells; rw [HP.out]]; exact this
            · exact ((hB.out.trans (B5.out.mono hBs)).alloc (by omega) _).grown HG7.out (by simp; omega) (fun g hg => (own5.out.lt g hg).1)
          case measure => simp [intOf]; omega
    · obtain rfl : k = L.length := by omega
      have k8 := ((HH.out.below hB.out)).dbk
      have f8 := frozen_of_row _ _ 0 _ _ k8
      clear k8
      have hni : (n : Int) ≤ (L.length : Int) := by omega
      go_wp2_with fail
      go_ret
      have hown' := hown.out
      rw [HFL.out] at hown' HKN
      rw [HKN.out] at hown' ⊢
      have hS := dbook_store (L' := L.filter (kp now)) HH.out (Fr.below hB.out) (own_lower hown' hbw)
      refine ⟨rfl, _, hS.2.1, fun k hk => ?_, hS.2.2⟩
      right
      exact (hown'.lt k hk).1
end Go.Proofs.YtnaodgljdbkmnaaDoor
