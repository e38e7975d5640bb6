/- a packet peeled, the program's -/
import Derived.Test.YtbdimlppnhcicaaGreatDoorOnL
namespace Go.Proofs.YtbdimlppnhcicaaGreatDoor
set_option linter.unusedVariables false
open Go.RowKit
/-! onion: a packet peeled -/
def firstK (pk : ByteArray) : ByteArray := (op4 pk.data.toList).vs.getD 0 e0
def secK (pk : ByteArray) : ByteArray := (op4 pk.data.toList).vs.getD 1 e0
def peelB (k l0 l1 : ByteArray) : Option (ByteArray × Lay) :=
  match unboxO (agreeP k l0).1 l1 with
  | some t => (match layO t with
    | some x => if (agreeP k l0).2 = 0 then some ((agreeP k l0).1, x) else none
    | none => none)
  | none => none
def memHas : Option (List ByteArray) → ByteArray → Bool
  | none, _ => false
  | some L, k => decide (k ∈ L)
def memFull : Option (List ByteArray) → Bool
  | none => false
  | some L => decide (4096 ≤ L.length)
def peelQ (k l0 l1 : ByteArray) (mem : Option (List ByteArray)) : Int × Lay × ByteArray :=
  if (op4 l0.data.toList).op ≠ 80 ∨ (op4 l1.data.toList).op ≠ 66 then (220, lay0, e0)
  else if memHas mem l0 = true then (221, lay0, e0)
  else match peelB k l0 l1 with
    | none => (220, lay0, e0)
    | some (s, x) => if memFull mem = true then (3, lay0, e0) else (0, x, s)
def peelE (k pk : ByteArray) (mem : Option (List ByteArray)) : Int × Lay × ByteArray :=
  if rt k = false then (10, lay0, e0)
  else if isT (op4 pk.data.toList) 2 = false then (220, lay0, e0)
  else peelQ k (firstK pk) (secK pk) mem
def peelM (k pk : ByteArray) (L : List ByteArray) : List ByteArray := if (peelE k pk (some L)).1 = 0 then L ++ [firstK pk] else L
def peelV (p : Int × Lay × ByteArray) : Value := .tuple #[.agg (p.2.1.cells p.2.2), .int .i64 p.1]
theorem unboxO_le {k t u : ByteArray} (h : unboxO k t = some u) : u.size ≤ 16384 := by
  unfold unboxO at h
  cases hx : readP t.data.toList with
  | none => rw [hx] at h; cases h
  | some x =>
    rw [hx] at h
    simp only [] at h
    split at h
    · cases h
      show (nth x.kids 1).toArray.size ≤ 16384
      rw [List.size_toArray]
      have hl := (read_parse hx).2
      unfold nth
      cases hk : x.kids[1]? with
      | none => simp [hk]
      | some y =>
        have := (read_kids hx y (List.mem_of_getElem? hk)).2
        simp [hk]; omega
    · cases h
theorem unboxV_O (o : Option ByteArray) : unboxV o = .tuple #[.string (o.getD e0), .bool o.isSome] := by
  cases o <;> rfl
theorem unboxO_getD (k t : ByteArray) : ((unboxO k t).getD e0).size ≤ 16384 := by
  cases h : unboxO k t with
  | none => exact Nat.zero_le _
  | some u => exact unboxO_le h
def peelF (c : Int) (s : ByteArray) (o : Bool) (Y : Option Lay) : Option (ByteArray × Lay) := if o = true ∧ c = 0 then Y.map (fun x => (s, x)) else none
theorem peelB_F (k l0 l1 : ByteArray) : peelB k l0 l1 = peelF (agreeP k l0).2 (agreeP k l0).1 (unboxO (agreeP k l0).1 l1).isSome (layO ((unboxO (agreeP k l0).1 l1).getD e0)) := by
  unfold peelB peelF
  cases unboxO (agreeP k l0).1 l1 with
  | none => rfl
  | some t =>
    simp only [Option.isSome_some, Option.getD_some, true_and]
    cases layO t with
    | none => by_cases h : (agreeP k l0).2 = 0
              · rw [if_pos h]; rfl
              · rw [if_neg h]
    | some x => rfl
theorem lt_of_heap_map {w : World} {b : Nat} {o : Obj} (h : w.heap[b]? = some o) : b < w.heap.size := (Array.getElem?_eq_some_iff.1 h).1
theorem seven_five {w : World} {b : Nat} {a0 a1 a2 a3 a4 a5 a6 : Value} {t : TypeId} {f : Nat × Nat} (h : w.heap[b]? = some (.cells #[a0, a1, a2, a3, a4, a5, a6] t f)) : w.cell? ⟨b, 5, none⟩ = some a5 := by
  simp [World.cell?, h]
theorem SeenAt.blocks {w w' : World} {base sb mm : Nat} {L : List ByteArray} (h : SeenAt w base sb mm L) (hs : w'.heap[sb]? = w.heap[sb]?) (hm : w'.heap[mm]? = w.heap[mm]?) : SeenAt w' base sb mm L := by
  obtain ⟨es, c, h1, h2⟩ := h.map
  exact ⟨hs.trans h.s, ⟨es, c, hm.trans h1, h2⟩, h.h1, h.h2⟩
def peelH (mem : Option (List ByteArray)) (l0 : ByteArray) (F : Option (ByteArray × Lay)) : Int × Lay × ByteArray :=
  if memHas mem l0 = true then (221, lay0, e0)
  else match F with
    | none => (220, lay0, e0)
    | some (s, x) => if memFull mem = true then (3, lay0, e0) else (0, x, s)
def peelG (op0 op1 : Nat) (l0 : ByteArray) (mem : Option (List ByteArray)) (c : Int) (s : ByteArray) (o : Bool) (Y : Option Lay) : Int × Lay × ByteArray :=
  if op0 ≠ 80 ∨ op1 ≠ 66 then (220, lay0, e0) else peelH mem l0 (peelF c s o Y)
theorem fr_of_below {S : Nat → Prop} {w w' : World} (h : Below w.heap.size w w') : Fr S w w' := ⟨h.os, h.tape, h.output, h.size, fun k hk _ => h.block k hk⟩
set_option maxRecDepth 100000 in
set_option maxHeartbeats 16000000 in
theorem opeel_nil (k pk : ByteArray) (w : World) (hk : k.size ≤ maxLen) (hpk : pk.size ≤ maxLen) (hL : LibOk w) (hTb : Tab w) : Calls Tryz.prog 56 #[.string k, .string pk, .pointer none] w fun e w' => e = .returned (peelV (peelE k pk none)) ∧ Below w.heap.size w w' := by
  have HR : Hid (∀ W, Below w.heap.size w W → Calls Tryz.prog 66 #[.string k] W fun e w' => e = .returned (.bool (rightB k.data.toList)) ∧ Below W.heap.size W w') := fun W hW => right_any k W hk (hL.below hW)
  have HRT : Hid (rightB k.data.toList = rt k) := rfl
  obtain ⟨r, hr⟩ : ∃ r, rightB k.data.toList = r := ⟨_, rfl⟩
  obtain ⟨q, hq⟩ : ∃ q, op4 pk.data.toList = q := ⟨_, rfl⟩
  have HT : Hid (∀ W, Below w.heap.size w W → Calls Tryz.prog 60 #[.string pk, .int .i64 2] W (KidsPostN q 2 W)) := fun W hW => by rw [← hq]; exact otuple_new pk 2 W _ (by omega) (popenN pk W hpk (hL.below hW))
  have HE0 : Hid (peelE k pk none = if r = false then (10, lay0, e0) else if isT q 2 = false then (220, lay0, e0) else peelQ k (q.vs.getD 0 e0) (q.vs.getD 1 e0) none) := by
    show _ = _
    unfold peelE firstK secK
    rw [hq, ← hr, HRT.out]
  have HQK : Hid (∀ c ∈ q.vs, c.size ≤ 16384) := by rw [← hq]; exact op4_kid pk.data.toList
  have HFK : Hid (firstK pk = q.vs.getD 0 e0) := by show _ = _; unfold firstK; rw [hq]
  have HLB := Lib.hid hL
  have HTB := Lib.hid hTb
  rw [hr] at HR
  clear hr hq HRT hL hTb hpk
  go_enter Tryz.func56, Tryz.ntmps56
  go_upto_region 1 with fail
  have CX := heap_alloc_at w (.cells #[.string ⟨#[]⟩, .int .i64 0, .int .i64 0, .string ⟨#[]⟩, .string ⟨#[]⟩, .string ⟨#[]⟩, .bool false] 111)
  have B0 := below_new' w (.cells #[.string ⟨#[]⟩, .int .i64 0, .int .i64 0, .string ⟨#[]⟩, .string ⟨#[]⟩, .string ⟨#[]⟩, .bool false] 111)
  have SX : Hid (LSt w w.heap.size 111 #[.string ⟨#[]⟩, .int .i64 0, .int .i64 0, .string ⟨#[]⟩, .string ⟨#[]⟩, .string ⟨#[]⟩, .bool false] (w.alloc (.cells #[.string ⟨#[]⟩, .int .i64 0, .int .i64 0, .string ⟨#[]⟩, .string ⟨#[]⟩, .string ⟨#[]⟩, .bool false] 111))) := ⟨B0, CX, Nat.le_refl _⟩
  clear CX B0
  generalize w.alloc (.cells #[.string ⟨#[]⟩, .int .i64 0, .int .i64 0, .string ⟨#[]⟩, .string ⟨#[]⟩, .string ⟨#[]⟩, .bool false] 111) = w0 at SX ⊢
  obtain ⟨xb, hxb⟩ : ∃ x, w.heap.size = x := ⟨_, rfl⟩
  have HXB := Lib.hid hxb
  rw [hxb] at SX ⊢
  clear hxb
  cases r with
  | false =>
    have HV : Hid ((if false = false then (10, lay0, e0) else if isT q 2 = false then (220, lay0, e0) else peelQ k (q.vs.getD 0 e0) (q.vs.getD 1 e0) none) = ((10 : Int), lay0, e0)) := if_pos rfl
    go_wp2_with (first | (go_at_call 66; (with_reducible refine Calls.mono (HR.out _ SX.out.bel) ?_); rintro e w1 ⟨rfl, hb⟩; have S1 := Lib.hid (SX.out.next hb); clear hb) | (with_reducible refine wpList_store_row rfl 111 (.tmp 6) (.tmp 23) rfl xb #[.string ⟨#[]⟩, .int .i64 0, .int .i64 0, .string ⟨#[]⟩, .string ⟨#[]⟩, .string ⟨#[]⟩, .bool false] rfl rfl 111 _ S1.out.x (by kernel_rfl) rfl (by simp [Value.oneCell']) ?_))
    have hl := run_loadVar_row (P := Tryz.prog) (w1.setRow xb #[.string ⟨#[]⟩, .int .i64 0, .int .i64 0, .string ⟨#[]⟩, .string ⟨#[]⟩, .string ⟨#[]⟩, .bool false]) xb 111 111 #[.string ⟨#[]⟩, .int .i64 0, .int .i64 0, .string ⟨#[]⟩, .string ⟨#[]⟩, .string ⟨#[]⟩, .bool false] (0, 0) _ (setRow_heap w1 xb _ _ 111 _ S1.out.x) Tryz.underlying111 rfl (by kernel_rfl)
    have BB := below_setRow S1.out.bel (by have := HXB.out; have := S1.out.hx; omega) #[.string ⟨#[]⟩, .int .i64 0, .int .i64 0, .string ⟨#[]⟩, .string ⟨#[]⟩, .string ⟨#[]⟩, .bool false]
    exact bodyPost_ret (results_cell_tmp Tryz.results56 _ _ _ rfl hl) rfl ⟨by rw [HE0.out, HV.out]; rfl, BB⟩
  | true =>
    obtain ⟨b, hb⟩ : ∃ b, isT q 2 = b := ⟨_, rfl⟩
    have HB := Lib.hid hb
    clear hb
    cases b with
    | false =>
      have HV : Hid ((if true = false then (10, lay0, e0) else if isT q 2 = false then (220, lay0, e0) else peelQ k (q.vs.getD 0 e0) (q.vs.getD 1 e0) none) = ((220 : Int), lay0, e0)) := (if_neg (by decide)).trans (if_pos HB.out)
      go_wp2_with (first | (go_at_call 66; (with_reducible refine Calls.mono (HR.out _ SX.out.bel) ?_); rintro e w1 ⟨rfl, hb⟩; have S1 := Lib.hid (SX.out.next hb); clear hb) | (go_at_call 60; (with_reducible refine Calls.mono (HT.out _ S1.out.bel) ?_); rintro e w2 ⟨hb, o2, k2, rfl, hs⟩; have S2 := Lib.hid (S1.out.next hb); clear hb hs; have hb := HB.out; rw [hb]) | (with_reducible refine wpList_store_row rfl 111 (.tmp 6) (.tmp 31) rfl xb #[.string ⟨#[]⟩, .int .i64 0, .int .i64 0, .string ⟨#[]⟩, .string ⟨#[]⟩, .string ⟨#[]⟩, .bool false] rfl rfl 111 _ S2.out.x (by kernel_rfl) rfl (by simp [Value.oneCell']) ?_))
      have hl := run_loadVar_row (P := Tryz.prog) (w2.setRow xb #[.string ⟨#[]⟩, .int .i64 0, .int .i64 0, .string ⟨#[]⟩, .string ⟨#[]⟩, .string ⟨#[]⟩, .bool false]) xb 111 111 #[.string ⟨#[]⟩, .int .i64 0, .int .i64 0, .string ⟨#[]⟩, .string ⟨#[]⟩, .string ⟨#[]⟩, .bool false] (0, 0) _ (setRow_heap w2 xb _ _ 111 _ S2.out.x) Tryz.underlying111 rfl (by kernel_rfl)
      have BB := below_setRow S2.out.bel (by have := HXB.out; have := S2.out.hx; omega) #[.string ⟨#[]⟩, .int .i64 0, .int .i64 0, .string ⟨#[]⟩, .string ⟨#[]⟩, .string ⟨#[]⟩, .bool false]
      exact bodyPost_ret (results_cell_tmp Tryz.results56 _ _ _ rfl hl) rfl ⟨by rw [HE0.out, HV.out]; rfl, BB⟩
    | true =>
      obtain ⟨l0, l1, hv⟩ := two_of (isT_vs HB.out)
      have HV0 : Hid ((if true = false then (10, lay0, e0) else if isT q 2 = false then (220, lay0, e0) else peelQ k (q.vs.getD 0 e0) (q.vs.getD 1 e0) none) = peelQ k l0 l1 none) := by
        show _ = _
        rw [if_neg (by decide), if_neg (by rw [HB.out]; decide), hv]
        rfl
      have HE := Lib.hid (HE0.out.trans HV0.out)
      have hl0 := HQK.out l0 (by rw [hv]; simp)
      have hl1 := HQK.out l1 (by rw [hv]; simp)
      have HF0 : Hid (firstK pk = l0) := by show _ = _; rw [HFK.out, hv]; rfl
      have HT2 : Hid (∀ W, Below w.heap.size w W → Calls Tryz.prog 60 #[.string pk, .int .i64 2] W fun e w' => Below W.heap.size W w' ∧ ∃ lb k, e = .returned (.tuple #[.slice (some ⟨lb, 0, none⟩) 2 k, .bool true]) ∧ W.heap.size ≤ lb ∧ w'.cell? ⟨lb, 0, none⟩ = some (.string l0) ∧ w'.cell? ⟨lb, 1, none⟩ = some (.string l1)) := fun W hW => (HT.out W hW).mono fun _ _ hk => kids_two hk HB.out hv
      have HO0 : Hid (∀ W, Below w.heap.size w W → Calls Tryz.prog 120 #[.string l0] W (OneForm (op4 l0.data.toList) W)) := fun W hW => popen_any l0 W (lt_max hl0) (HLB.out.below hW)
      have HO1 : Hid (∀ W, Below w.heap.size w W → Calls Tryz.prog 120 #[.string l1] W (OneForm (op4 l1.data.toList) W)) := fun W hW => popen_any l1 W (lt_max hl1) (HLB.out.below hW)
      have HG : Hid (∀ W, Below w.heap.size w W → Calls Tryz.prog 118 #[.string k, .string l0] W fun e w' => e = .returned (.tuple #[.string (agreeP k l0).1, .int .i64 (agreeP k l0).2]) ∧ Below W.heap.size W w') := fun W hW => (agree_any k l0 W (lt_max hl0) hk (HLB.out.below hW)).mono fun _ _ h => ⟨by rw [h.1, agreeV_P]; rfl, h.2⟩
      have HU : Hid (∀ W, Below w.heap.size w W → Calls Tryz.prog 59 #[.string (agreeP k l0).1, .string l1] W fun e w' => e = .returned (.tuple #[.string ((unboxO (agreeP k l0).1 l1).getD e0), .bool (unboxO (agreeP k l0).1 l1).isSome]) ∧ Below W.heap.size W w') := fun W hW => (unbox_any (agreeP k l0).1 l1 W (lt_max hl1) (HLB.out.below hW)).mono fun _ _ h => ⟨by rw [h.1, unboxV_O], h.2⟩
      have HY : Hid (∀ W, Below w.heap.size w W → Calls Tryz.prog 121 #[.string ((unboxO (agreeP k l0).1 l1).getD e0)] W (LayPost (layO ((unboxO (agreeP k l0).1 l1).getD e0)) W)) := fun W hW => olayer_any _ W (lt_max (unboxO_getD _ _)) (HLB.out.below hW) (HTB.out.below hW)
      have HQ : Hid (peelQ k l0 l1 none = peelG (op4 l0.data.toList).op (op4 l1.data.toList).op l0 none (agreeP k l0).2 (agreeP k l0).1 (unboxO (agreeP k l0).1 l1).isSome (layO ((unboxO (agreeP k l0).1 l1).getD e0))) := by
        show _ = _
        unfold peelQ peelG peelH
        rw [peelB_F]
      clear hv hl0 hl1 HV0 HT HB HE0
      generalize layO ((unboxO (agreeP k l0).1 l1).getD e0) = Y at HY HQ
      generalize (unboxO (agreeP k l0).1 l1).getD e0 = t at HU HY
      generalize (unboxO (agreeP k l0).1 l1).isSome = uo at HU HQ
      obtain ⟨s, hs⟩ : ∃ s, (agreeP k l0).1 = s := ⟨_, rfl⟩
      obtain ⟨c, hc⟩ : ∃ s, (agreeP k l0).2 = s := ⟨_, rfl⟩
      rw [hs] at HG HU HQ
      rw [hc] at HG HQ
      clear hs hc
      generalize op4 l0.data.toList = q0 at HO0 HQ
      generalize op4 l1.data.toList = q1 at HO1 HQ
      obtain ⟨op0, n0, u0, vs0, b0⟩ := q0
      obtain ⟨op1, n1, u1, vs1, b1⟩ := q1
      simp only at HO0 HO1 HQ
      go_upto_region 6 with (first | (go_at_call 66; (with_reducible refine Calls.mono (HR.out _ SX.out.bel) ?_); rintro e w1 ⟨rfl, hb⟩; have S1 := Lib.hid (SX.out.next hb); clear hb) | (go_at_call 60; (with_reducible refine Calls.mono (HT2.out _ S1.out.bel) ?_); rintro e w2 ⟨hb, lb, k2, rfl, hlb, a0, a1⟩; have S2 := Lib.hid (S1.out.next hb); clear hb hlb))
      go_upto_region 7 with (go_at_call 120; (with_reducible refine Calls.mono (HO0.out _ S2.out.bel) ?_); rintro e w3 ⟨hb, oo, kk, rfl, hs⟩; have S3 := Lib.hid (S2.out.next hb); replace a0 := cell_later hb a0; replace a1 := cell_later hb a1; clear hb hs)
      have B3 := below_new' w3 (.cells #[.int .u8 op0, .int .i64 n0, .string u0, .slice oo vs0.length kk] 192)
      have P3 := Lib.hid (heap_alloc_at w3 (.cells #[.int .u8 op0, .int .i64 n0, .string u0, .slice oo vs0.length kk] 192))
      have S4 := Lib.hid (S3.out.next B3)
      replace a0 := cell_later B3 a0; replace a1 := cell_later B3 a1
      clear B3
      generalize w3.alloc (.cells #[.int .u8 op0, .int .i64 n0, .string u0, .slice oo vs0.length kk] 192) = w4 at P3 S4 a0 a1 ⊢
      generalize w3.heap.size = k10 at P3 ⊢
      go_upto_region 8 with (go_at_call 120; (with_reducible refine Calls.mono (HO1.out _ S4.out.bel) ?_); rintro e w5 ⟨hb, o2, kk2, rfl, hs⟩; have S5 := Lib.hid (S4.out.next hb); have P5 := Lib.hid ((hb.block _ (lt_of_heap P3.out)).trans P3.out); replace a0 := cell_later hb a0; replace a1 := cell_later hb a1; clear hb hs)
      have B5 := below_new' w5 (.cells #[.int .u8 op1, .int .i64 n1, .string u1, .slice o2 vs1.length kk2] 192)
      have P6 := (B5.block _ (lt_of_heap P5.out)).trans P5.out
      have Q6 := heap_alloc_at w5 (.cells #[.int .u8 op1, .int .i64 n1, .string u1, .slice o2 vs1.length kk2] 192)
      have S6 := Lib.hid (S5.out.next B5)
      replace a0 := cell_later B5 a0; replace a1 := cell_later B5 a1
      clear B5
      generalize w5.alloc (.cells #[.int .u8 op1, .int .i64 n1, .string u1, .slice o2 vs1.length kk2] 192) = w6 at P6 Q6 S6 a0 a1 ⊢
      generalize w5.heap.size = k12 at Q6 ⊢
      obtain ⟨g0, _, _, _⟩ := four P6
      obtain ⟨f0, _, _, _⟩ := four Q6
      clear P6 Q6 S5 S4 S3 S2 S1 SX P3 P5 HO0 HO1 HT2 HR
      by_cases h0 : op0 = 80
      case neg =>
        have HVE := Lib.hid (HE.out.trans (HQ.out.trans (if_pos (.inl h0))))
        have e1 : (op0 == 80) = false := by simpa using h0
        have e2 : ((op0 : Int) == 80) = false := by simp; omega
        have e3 : ¬ ((op0 : Int) = 80) := by omega
        clear h0 f0 a0 a1
        go_wp2_with (first | (with_reducible refine wpList_store_row rfl 111 (.tmp 6) (.tmp 55) rfl xb #[.string ⟨#[]⟩, .int .i64 0, .int .i64 0, .string ⟨#[]⟩, .string ⟨#[]⟩, .string ⟨#[]⟩, .bool false] rfl rfl 111 _ S6.out.x (by kernel_rfl) rfl (by simp [Value.oneCell']) ?_))
        have hl := run_loadVar_row (P := Tryz.prog) (w6.setRow xb #[.string ⟨#[]⟩, .int .i64 0, .int .i64 0, .string ⟨#[]⟩, .string ⟨#[]⟩, .string ⟨#[]⟩, .bool false]) xb 111 111 #[.string ⟨#[]⟩, .int .i64 0, .int .i64 0, .string ⟨#[]⟩, .string ⟨#[]⟩, .string ⟨#[]⟩, .bool false] (0, 0) _ (setRow_heap w6 xb _ _ 111 _ S6.out.x) Tryz.underlying111 rfl (by kernel_rfl)
        have BB := below_setRow S6.out.bel (by have := HXB.out; have := S6.out.hx; omega) #[.string ⟨#[]⟩, .int .i64 0, .int .i64 0, .string ⟨#[]⟩, .string ⟨#[]⟩, .string ⟨#[]⟩, .bool false]
        exact bodyPost_ret (results_cell_tmp Tryz.results56 _ _ _ rfl hl) rfl ⟨by rw [HVE.out]; rfl, BB⟩
      subst h0
      by_cases h1 : op1 = 66
      case neg =>
        have HVE := Lib.hid (HE.out.trans (HQ.out.trans (if_pos (.inr h1))))
        have e1 : (op1 == 66) = false := by simpa using h1
        have e2 : ((op1 : Int) == 66) = false := by simp; omega
        have e3 : ¬ ((op1 : Int) = 66) := by omega
        clear h1 a0 a1
        go_wp2_with (first | (with_reducible refine wpList_store_row rfl 111 (.tmp 6) (.tmp 55) rfl xb #[.string ⟨#[]⟩, .int .i64 0, .int .i64 0, .string ⟨#[]⟩, .string ⟨#[]⟩, .string ⟨#[]⟩, .bool false] rfl rfl 111 _ S6.out.x (by kernel_rfl) rfl (by simp [Value.oneCell']) ?_))
        have hl := run_loadVar_row (P := Tryz.prog) (w6.setRow xb #[.string ⟨#[]⟩, .int .i64 0, .int .i64 0, .string ⟨#[]⟩, .string ⟨#[]⟩, .string ⟨#[]⟩, .bool false]) xb 111 111 #[.string ⟨#[]⟩, .int .i64 0, .int .i64 0, .string ⟨#[]⟩, .string ⟨#[]⟩, .string ⟨#[]⟩, .bool false] (0, 0) _ (setRow_heap w6 xb _ _ 111 _ S6.out.x) Tryz.underlying111 rfl (by kernel_rfl)
        have BB := below_setRow S6.out.bel (by have := HXB.out; have := S6.out.hx; omega) #[.string ⟨#[]⟩, .int .i64 0, .int .i64 0, .string ⟨#[]⟩, .string ⟨#[]⟩, .string ⟨#[]⟩, .bool false]
        exact bodyPost_ret (results_cell_tmp Tryz.results56 _ _ _ rfl hl) rfl ⟨by rw [HVE.out]; rfl, BB⟩
      subst h1
      have HQ1 : Hid (peelE k pk none = peelH none l0 (peelF c s uo Y)) := HE.out.trans (HQ.out.trans (if_neg (by decide)))
      clear HE HQ
      have HHD : Hid (memHas none l0 = false) := rfl
      go_upto_region 10 with fail
      go_quiet (fail)
      have hb7 := (drewN_same w6 nq).1
      have S7 := Lib.hid (S6.out.next hb7)
      replace a0 := cell_later hb7 a0; replace a1 := cell_later hb7 a1
      clear hb7 g0 f0 S6 
      generalize w6.drewN nq = w7 at S7 a0 a1 ⊢
      have HQ2 : Hid (peelE k pk none = match peelF c s uo Y with | none => ((220 : Int), lay0, e0) | some (s, x) => if memFull none = true then (3, lay0, e0) else (0, x, s)) := HQ1.out.trans (if_neg (by rw [HHD.out]; decide))
      clear HQ1
      go_upto_region 15 with (first | (go_at_call 118; (with_reducible refine Calls.mono (HG.out _ S7.out.bel) ?_); rintro e w8 ⟨rfl, hb⟩; have S8 := Lib.hid (S7.out.next hb); replace a0 := cell_later hb a0; replace a1 := cell_later hb a1; clear hb) | (go_at_call 59; (with_reducible refine Calls.mono (HU.out _ S8.out.bel) ?_); rintro e w9 ⟨rfl, hb⟩; have S9 := Lib.hid (S8.out.next hb); replace a0 := cell_later hb a0; clear hb a1) | (go_at_call 121; (with_reducible refine Calls.mono (HY.out _ S9.out.bel) ?_); rintro e w10 ⟨hb, ⟨xc, xa, xe, xp, xi, xl⟩, rfl, hx⟩; have S10 := Lib.hid (S9.out.next hb); have HXY := Lib.hid hx; replace a0 := cell_later hb a0; clear hb hx; dsimp only [Lay.cells, e0]))
      have B11 := below_new' w10 (.cells #[.string xc, .int .i64 xa, .int .i64 xe, .string xp, .string xi, .string ⟨#[]⟩, .bool xl] 111)
      have X11 := Lib.hid (heap_alloc_at w10 (.cells #[.string xc, .int .i64 xa, .int .i64 xe, .string xp, .string xi, .string ⟨#[]⟩, .bool xl] 111))
      have S11 := Lib.hid (S10.out.next B11)
      have NXB : Hid (xb < w10.heap.size) := lt_of_heap S10.out.x
      have NKB : Hid (w.heap.size ≤ w10.heap.size) := S10.out.bel.size
      replace a0 := cell_later B11 a0
      clear B11
      generalize w10.alloc (.cells #[.string xc, .int .i64 xa, .int .i64 xe, .string xp, .string xi, .string ⟨#[]⟩, .bool xl] 111) = w11 at X11 S11 a0 ⊢
      generalize w10.heap.size = nb at X11 NXB NKB ⊢
      clear S7 S8 S9 S10 HG HU HY
      by_cases hc : c = 0
      case neg =>
        have HVE : Hid (peelE k pk none = (220, lay0, e0)) := HQ2.out.trans (by unfold peelF; rw [if_neg (fun h => hc h.2)])
        have e1 : (c == 0) = false := by simpa using hc
        clear a0
        go_wp2_with (first | (with_reducible refine wpList_store_row rfl 111 (.tmp 6) (.tmp 102) rfl xb #[.string ⟨#[]⟩, .int .i64 0, .int .i64 0, .string ⟨#[]⟩, .string ⟨#[]⟩, .string ⟨#[]⟩, .bool false] rfl rfl 111 _ S11.out.x (by kernel_rfl) rfl (by simp [Value.oneCell']) ?_))
        have hl := run_loadVar_row (P := Tryz.prog) (w11.setRow xb #[.string ⟨#[]⟩, .int .i64 0, .int .i64 0, .string ⟨#[]⟩, .string ⟨#[]⟩, .string ⟨#[]⟩, .bool false]) xb 111 111 #[.string ⟨#[]⟩, .int .i64 0, .int .i64 0, .string ⟨#[]⟩, .string ⟨#[]⟩, .string ⟨#[]⟩, .bool false] (0, 0) _ (setRow_heap w11 xb _ _ 111 _ S11.out.x) Tryz.underlying111 rfl (by kernel_rfl)
        have BB := below_setRow S11.out.bel (by have := HXB.out; have := S11.out.hx; omega) #[.string ⟨#[]⟩, .int .i64 0, .int .i64 0, .string ⟨#[]⟩, .string ⟨#[]⟩, .string ⟨#[]⟩, .bool false]
        exact bodyPost_ret (results_cell_tmp Tryz.results56 _ _ _ rfl hl) rfl ⟨by rw [HVE.out]; rfl, BB⟩
      subst hc
      cases uo with
      | false =>
        have HVE : Hid (peelE k pk none = (220, lay0, e0)) := HQ2.out.trans (by unfold peelF; rw [if_neg (fun h => by cases h.1)])
        clear a0
        go_wp2_with (first | (with_reducible refine wpList_store_row rfl 111 (.tmp 6) (.tmp 102) rfl xb #[.string ⟨#[]⟩, .int .i64 0, .int .i64 0, .string ⟨#[]⟩, .string ⟨#[]⟩, .string ⟨#[]⟩, .bool false] rfl rfl 111 _ S11.out.x (by kernel_rfl) rfl (by simp [Value.oneCell']) ?_))
        have hl := run_loadVar_row (P := Tryz.prog) (w11.setRow xb #[.string ⟨#[]⟩, .int .i64 0, .int .i64 0, .string ⟨#[]⟩, .string ⟨#[]⟩, .string ⟨#[]⟩, .bool false]) xb 111 111 #[.string ⟨#[]⟩, .int .i64 0, .int .i64 0, .string ⟨#[]⟩, .string ⟨#[]⟩, .string ⟨#[]⟩, .bool false] (0, 0) _ (setRow_heap w11 xb _ _ 111 _ S11.out.x) Tryz.underlying111 rfl (by kernel_rfl)
        have BB := below_setRow S11.out.bel (by have := HXB.out; have := S11.out.hx; omega) #[.string ⟨#[]⟩, .int .i64 0, .int .i64 0, .string ⟨#[]⟩, .string ⟨#[]⟩, .string ⟨#[]⟩, .bool false]
        exact bodyPost_ret (results_cell_tmp Tryz.results56 _ _ _ rfl hl) rfl ⟨by rw [HVE.out]; rfl, BB⟩
      | true =>
        cases Y with
        | none =>
          have HVE : Hid (peelE k pk none = (220, lay0, e0)) := HQ2.out.trans (by unfold peelF; rw [if_pos ⟨rfl, rfl⟩]; rfl)
          clear a0
          go_wp2_with (first | (with_reducible refine wpList_store_row rfl 111 (.tmp 6) (.tmp 102) rfl xb #[.string ⟨#[]⟩, .int .i64 0, .int .i64 0, .string ⟨#[]⟩, .string ⟨#[]⟩, .string ⟨#[]⟩, .bool false] rfl rfl 111 _ S11.out.x (by kernel_rfl) rfl (by simp [Value.oneCell']) ?_))
          have hl := run_loadVar_row (P := Tryz.prog) (w11.setRow xb #[.string ⟨#[]⟩, .int .i64 0, .int .i64 0, .string ⟨#[]⟩, .string ⟨#[]⟩, .string ⟨#[]⟩, .bool false]) xb 111 111 #[.string ⟨#[]⟩, .int .i64 0, .int .i64 0, .string ⟨#[]⟩, .string ⟨#[]⟩, .string ⟨#[]⟩, .bool false] (0, 0) _ (setRow_heap w11 xb _ _ 111 _ S11.out.x) Tryz.underlying111 rfl (by kernel_rfl)
          have BB := below_setRow S11.out.bel (by have := HXB.out; have := S11.out.hx; omega) #[.string ⟨#[]⟩, .int .i64 0, .int .i64 0, .string ⟨#[]⟩, .string ⟨#[]⟩, .string ⟨#[]⟩, .bool false]
          exact bodyPost_ret (results_cell_tmp Tryz.results56 _ _ _ rfl hl) rfl ⟨by rw [HVE.out]; rfl, BB⟩
        | some y =>
          obtain rfl := HXY.out y rfl
          have HQ3 : Hid (peelE k pk none = if memFull none = true then (3, lay0, e0) else (0, ⟨xc, xa, xe, xp, xi, xl⟩, s)) := HQ2.out.trans (by unfold peelF; rw [if_pos ⟨rfl, rfl⟩]; rfl)
          clear HQ2 HXY
          have HVE : Hid (peelE k pk none = (0, ⟨xc, xa, xe, xp, xi, xl⟩, s)) := HQ3.out.trans (if_neg (by decide))
          clear a0
          go_upto_region 21 with (go_at_call 122; (with_reducible refine Calls.mono (seen_nil _) ?_); rintro e w12 ⟨rfl, hb⟩; have S12 := Lib.hid (S11.out.next hb); have X12 := Lib.hid ((hb.block _ (lt_of_heap X11.out)).trans X11.out); clear hb)
          have y5 := seven_five X12.out
          have z5 := seven_free X12.out 5
          go_upto_region 22 with fail
          clear y5 z5
          have hne : xb ≠ nb := by have := NXB.out; omega
          have X13 : Hid ((w12.setCell ⟨nb, 5, none⟩ (.string s)).heap[nb]? = some (.cells #[.string xc, .int .i64 xa, .int .i64 xe, .string xp, .string xi, .string s, .bool xl] 111 (0, 0))) := heap_setCell_same w12 nb 5 _ 111 _ X12.out
          have S13 : Hid (LSt w xb 111 #[.string ⟨#[]⟩, .int .i64 0, .int .i64 0, .string ⟨#[]⟩, .string ⟨#[]⟩, .string ⟨#[]⟩, .bool false] (w12.setCell ⟨nb, 5, none⟩ (.string s))) := ⟨S12.out.bel.setCell (p := ⟨nb, 5, none⟩) NKB.out _, (Below.heap_setCell _ _ _ _ hne).trans S12.out.x, S12.out.hx⟩
          generalize w12.setCell ⟨nb, 5, none⟩ (.string s) = w13 at X13 S13 ⊢
          go_wp2_with (first | (with_reducible refine wpList_load_row rfl 111 (.tmp 18) rfl nb rfl 111 _ (0, 0) _ X13.out Tryz.underlying111 rfl (by kernel_rfl) ?_) | (with_reducible refine wpList_store_row rfl 111 (.tmp 6) (.tmp 120) rfl xb #[.string xc, .int .i64 xa, .int .i64 xe, .string xp, .string xi, .string s, .bool xl] rfl rfl 111 _ S13.out.x (by kernel_rfl) rfl (by simp [Value.oneCell']) ?_))
          have hl := run_loadVar_row (P := Tryz.prog) (w13.setRow xb #[.string xc, .int .i64 xa, .int .i64 xe, .string xp, .string xi, .string s, .bool xl]) xb 111 111 #[.string xc, .int .i64 xa, .int .i64 xe, .string xp, .string xi, .string s, .bool xl] (0, 0) _ (setRow_heap w13 xb _ _ 111 _ S13.out.x) Tryz.underlying111 rfl (by kernel_rfl)
          exact bodyPost_ret (results_cell_tmp Tryz.results56 _ _ _ rfl hl) rfl ⟨by rw [HVE.out]; rfl, below_setRow S13.out.bel (by have := HXB.out; have := S13.out.hx; omega) _⟩
set_option maxRecDepth 100000 in
set_option maxHeartbeats 16000000 in
theorem opeel_mem (k pk : ByteArray) (w : World) (base sb mm : Nat) (L : List ByteArray) (hSn : SeenAt w base sb mm L) (hbase : w.heap.size ≥ base) (hLn : L.length ≤ 9223372036854775807) (hk : k.size ≤ maxLen) (hpk : pk.size ≤ maxLen) (hL : LibOk w) (hTb : Tab w) : Calls Tryz.prog 56 #[.string k, .string pk, .pointer (some ⟨sb, 0, none⟩)] w fun e w' => e = .returned (peelV (peelE k pk (some L))) ∧ Fr (fun b => b = mm) w w' ∧ SeenAt w' base sb mm (peelM k pk L) := by
  have HR : Hid (∀ W, Below w.heap.size w W → Calls Tryz.prog 66 #[.string k] W fun e w' => e = .returned (.bool (rightB k.data.toList)) ∧ Below W.heap.size W w') := fun W hW => right_any k W hk (hL.below hW)
  have HRT : Hid (rightB k.data.toList = rt k) := rfl
  obtain ⟨r, hr⟩ : ∃ r, rightB k.data.toList = r := ⟨_, rfl⟩
  obtain ⟨q, hq⟩ : ∃ q, op4 pk.data.toList = q := ⟨_, rfl⟩
  have HT : Hid (∀ W, Below w.heap.size w W → Calls Tryz.prog 60 #[.string pk, .int .i64 2] W (KidsPostN q 2 W)) := fun W hW => by rw [← hq]; exact otuple_new pk 2 W _ (by omega) (popenN pk W hpk (hL.below hW))
  have HE0 : Hid (peelE k pk (some L) = if r = false then (10, lay0, e0) else if isT q 2 = false then (220, lay0, e0) else peelQ k (q.vs.getD 0 e0) (q.vs.getD 1 e0) (some L)) := by
    show _ = _
    unfold peelE firstK secK
    rw [hq, ← hr, HRT.out]
  have HQK : Hid (∀ c ∈ q.vs, c.size ≤ 16384) := by rw [← hq]; exact op4_kid pk.data.toList
  have HFK : Hid (firstK pk = q.vs.getD 0 e0) := by show _ = _; unfold firstK; rw [hq]
  have HLB := Lib.hid hL
  have HTB := Lib.hid hTb
  rw [hr] at HR
  clear hr hq HRT hL hTb hpk
  have HSN := Lib.hid hSn
  have HLN := Lib.hid hLn
  clear hSn hLn
  go_enter Tryz.func56, Tryz.ntmps56
  go_upto_region 1 with fail
  have CX := heap_alloc_at w (.cells #[.string ⟨#[]⟩, .int .i64 0, .int .i64 0, .string ⟨#[]⟩, .string ⟨#[]⟩, .string ⟨#[]⟩, .bool false] 111)
  have B0 := below_new' w (.cells #[.string ⟨#[]⟩, .int .i64 0, .int .i64 0, .string ⟨#[]⟩, .string ⟨#[]⟩, .string ⟨#[]⟩, .bool false] 111)
  have SX : Hid (LSt w w.heap.size 111 #[.string ⟨#[]⟩, .int .i64 0, .int .i64 0, .string ⟨#[]⟩, .string ⟨#[]⟩, .string ⟨#[]⟩, .bool false] (w.alloc (.cells #[.string ⟨#[]⟩, .int .i64 0, .int .i64 0, .string ⟨#[]⟩, .string ⟨#[]⟩, .string ⟨#[]⟩, .bool false] 111))) := ⟨B0, CX, Nat.le_refl _⟩
  clear CX B0
  generalize w.alloc (.cells #[.string ⟨#[]⟩, .int .i64 0, .int .i64 0, .string ⟨#[]⟩, .string ⟨#[]⟩, .string ⟨#[]⟩, .bool false] 111) = w0 at SX ⊢
  obtain ⟨xb, hxb⟩ : ∃ x, w.heap.size = x := ⟨_, rfl⟩
  have HXB := Lib.hid hxb
  rw [hxb] at SX ⊢
  clear hxb
  cases r with
  | false =>
    have HV : Hid ((if false = false then (10, lay0, e0) else if isT q 2 = false then (220, lay0, e0) else peelQ k (q.vs.getD 0 e0) (q.vs.getD 1 e0) (some L)) = ((10 : Int), lay0, e0)) := if_pos rfl
    have SN := HSN
    go_wp2_with (first | (go_at_call 66; (with_reducible refine Calls.mono (HR.out _ SX.out.bel) ?_); rintro e w1 ⟨rfl, hb⟩; have S1 := Lib.hid (SX.out.next hb); clear hb) | (with_reducible refine wpList_store_row rfl 111 (.tmp 6) (.tmp 23) rfl xb #[.string ⟨#[]⟩, .int .i64 0, .int .i64 0, .string ⟨#[]⟩, .string ⟨#[]⟩, .string ⟨#[]⟩, .bool false] rfl rfl 111 _ S1.out.x (by kernel_rfl) rfl (by simp [Value.oneCell']) ?_))
    have hl := run_loadVar_row (P := Tryz.prog) (w1.setRow xb #[.string ⟨#[]⟩, .int .i64 0, .int .i64 0, .string ⟨#[]⟩, .string ⟨#[]⟩, .string ⟨#[]⟩, .bool false]) xb 111 111 #[.string ⟨#[]⟩, .int .i64 0, .int .i64 0, .string ⟨#[]⟩, .string ⟨#[]⟩, .string ⟨#[]⟩, .bool false] (0, 0) _ (setRow_heap w1 xb _ _ 111 _ S1.out.x) Tryz.underlying111 rfl (by kernel_rfl)
    have BB := below_setRow S1.out.bel (by have := HXB.out; have := S1.out.hx; omega) #[.string ⟨#[]⟩, .int .i64 0, .int .i64 0, .string ⟨#[]⟩, .string ⟨#[]⟩, .string ⟨#[]⟩, .bool false]
    exact bodyPost_ret (results_cell_tmp Tryz.results56 _ _ _ rfl hl) rfl ⟨by rw [HE0.out, HV.out]; rfl, ⟨fr_of_below BB, by unfold peelM; rw [HE0.out, HV.out]; exact (SN.out.below BB)⟩⟩
  | true =>
    obtain ⟨b, hb⟩ : ∃ b, isT q 2 = b := ⟨_, rfl⟩
    have HB := Lib.hid hb
    clear hb
    cases b with
    | false =>
      have HV : Hid ((if true = false then (10, lay0, e0) else if isT q 2 = false then (220, lay0, e0) else peelQ k (q.vs.getD 0 e0) (q.vs.getD 1 e0) (some L)) = ((220 : Int), lay0, e0)) := (if_neg (by decide)).trans (if_pos HB.out)
      have SN := HSN
      go_wp2_with (first | (go_at_call 66; (with_reducible refine Calls.mono (HR.out _ SX.out.bel) ?_); rintro e w1 ⟨rfl, hb⟩; have S1 := Lib.hid (SX.out.next hb); clear hb) | (go_at_call 60; (with_reducible refine Calls.mono (HT.out _ S1.out.bel) ?_); rintro e w2 ⟨hb, o2, k2, rfl, hs⟩; have S2 := Lib.hid (S1.out.next hb); clear hb hs; have hb := HB.out; rw [hb]) | (with_reducible refine wpList_store_row rfl 111 (.tmp 6) (.tmp 31) rfl xb #[.string ⟨#[]⟩, .int .i64 0, .int .i64 0, .string ⟨#[]⟩, .string ⟨#[]⟩, .string ⟨#[]⟩, .bool false] rfl rfl 111 _ S2.out.x (by kernel_rfl) rfl (by simp [Value.oneCell']) ?_))
      have hl := run_loadVar_row (P := Tryz.prog) (w2.setRow xb #[.string ⟨#[]⟩, .int .i64 0, .int .i64 0, .string ⟨#[]⟩, .string ⟨#[]⟩, .string ⟨#[]⟩, .bool false]) xb 111 111 #[.string ⟨#[]⟩, .int .i64 0, .int .i64 0, .string ⟨#[]⟩, .string ⟨#[]⟩, .string ⟨#[]⟩, .bool false] (0, 0) _ (setRow_heap w2 xb _ _ 111 _ S2.out.x) Tryz.underlying111 rfl (by kernel_rfl)
      have BB := below_setRow S2.out.bel (by have := HXB.out; have := S2.out.hx; omega) #[.string ⟨#[]⟩, .int .i64 0, .int .i64 0, .string ⟨#[]⟩, .string ⟨#[]⟩, .string ⟨#[]⟩, .bool false]
      exact bodyPost_ret (results_cell_tmp Tryz.results56 _ _ _ rfl hl) rfl ⟨by rw [HE0.out, HV.out]; rfl, ⟨fr_of_below BB, by unfold peelM; rw [HE0.out, HV.out]; exact (SN.out.below BB)⟩⟩
    | true =>
      obtain ⟨l0, l1, hv⟩ := two_of (isT_vs HB.out)
      have HV0 : Hid ((if true = false then (10, lay0, e0) else if isT q 2 = false then (220, lay0, e0) else peelQ k (q.vs.getD 0 e0) (q.vs.getD 1 e0) (some L)) = peelQ k l0 l1 (some L)) := by
        show _ = _
        rw [if_neg (by decide), if_neg (by rw [HB.out]; decide), hv]
        rfl
      have HE := Lib.hid (HE0.out.trans HV0.out)
      have hl0 := HQK.out l0 (by rw [hv]; simp)
      have hl1 := HQK.out l1 (by rw [hv]; simp)
      have HF0 : Hid (firstK pk = l0) := by show _ = _; rw [HFK.out, hv]; rfl
      have HT2 : Hid (∀ W, Below w.heap.size w W → Calls Tryz.prog 60 #[.string pk, .int .i64 2] W fun e w' => Below W.heap.size W w' ∧ ∃ lb k, e = .returned (.tuple #[.slice (some ⟨lb, 0, none⟩) 2 k, .bool true]) ∧ W.heap.size ≤ lb ∧ w'.cell? ⟨lb, 0, none⟩ = some (.string l0) ∧ w'.cell? ⟨lb, 1, none⟩ = some (.string l1)) := fun W hW => (HT.out W hW).mono fun _ _ hk => kids_two hk HB.out hv
      have HO0 : Hid (∀ W, Below w.heap.size w W → Calls Tryz.prog 120 #[.string l0] W (OneForm (op4 l0.data.toList) W)) := fun W hW => popen_any l0 W (lt_max hl0) (HLB.out.below hW)
      have HO1 : Hid (∀ W, Below w.heap.size w W → Calls Tryz.prog 120 #[.string l1] W (OneForm (op4 l1.data.toList) W)) := fun W hW => popen_any l1 W (lt_max hl1) (HLB.out.below hW)
      have HG : Hid (∀ W, Below w.heap.size w W → Calls Tryz.prog 118 #[.string k, .string l0] W fun e w' => e = .returned (.tuple #[.string (agreeP k l0).1, .int .i64 (agreeP k l0).2]) ∧ Below W.heap.size W w') := fun W hW => (agree_any k l0 W (lt_max hl0) hk (HLB.out.below hW)).mono fun _ _ h => ⟨by rw [h.1, agreeV_P]; rfl, h.2⟩
      have HU : Hid (∀ W, Below w.heap.size w W → Calls Tryz.prog 59 #[.string (agreeP k l0).1, .string l1] W fun e w' => e = .returned (.tuple #[.string ((unboxO (agreeP k l0).1 l1).getD e0), .bool (unboxO (agreeP k l0).1 l1).isSome]) ∧ Below W.heap.size W w') := fun W hW => (unbox_any (agreeP k l0).1 l1 W (lt_max hl1) (HLB.out.below hW)).mono fun _ _ h => ⟨by rw [h.1, unboxV_O], h.2⟩
      have HY : Hid (∀ W, Below w.heap.size w W → Calls Tryz.prog 121 #[.string ((unboxO (agreeP k l0).1 l1).getD e0)] W (LayPost (layO ((unboxO (agreeP k l0).1 l1).getD e0)) W)) := fun W hW => olayer_any _ W (lt_max (unboxO_getD _ _)) (HLB.out.below hW) (HTB.out.below hW)
      have HQ : Hid (peelQ k l0 l1 (some L) = peelG (op4 l0.data.toList).op (op4 l1.data.toList).op l0 (some L) (agreeP k l0).2 (agreeP k l0).1 (unboxO (agreeP k l0).1 l1).isSome (layO ((unboxO (agreeP k l0).1 l1).getD e0))) := by
        show _ = _
        unfold peelQ peelG peelH
        rw [peelB_F]
      clear hv hl0 hl1 HV0 HT HB HE0
      generalize layO ((unboxO (agreeP k l0).1 l1).getD e0) = Y at HY HQ
      generalize (unboxO (agreeP k l0).1 l1).getD e0 = t at HU HY
      generalize (unboxO (agreeP k l0).1 l1).isSome = uo at HU HQ
      obtain ⟨s, hs⟩ : ∃ s, (agreeP k l0).1 = s := ⟨_, rfl⟩
      obtain ⟨c, hc⟩ : ∃ s, (agreeP k l0).2 = s := ⟨_, rfl⟩
      rw [hs] at HG HU HQ
      rw [hc] at HG HQ
      clear hs hc
      generalize op4 l0.data.toList = q0 at HO0 HQ
      generalize op4 l1.data.toList = q1 at HO1 HQ
      obtain ⟨op0, n0, u0, vs0, b0⟩ := q0
      obtain ⟨op1, n1, u1, vs1, b1⟩ := q1
      simp only at HO0 HO1 HQ
      go_upto_region 6 with (first | (go_at_call 66; (with_reducible refine Calls.mono (HR.out _ SX.out.bel) ?_); rintro e w1 ⟨rfl, hb⟩; have S1 := Lib.hid (SX.out.next hb); clear hb) | (go_at_call 60; (with_reducible refine Calls.mono (HT2.out _ S1.out.bel) ?_); rintro e w2 ⟨hb, lb, k2, rfl, hlb, a0, a1⟩; have S2 := Lib.hid (S1.out.next hb); clear hb hlb))
      go_upto_region 7 with (go_at_call 120; (with_reducible refine Calls.mono (HO0.out _ S2.out.bel) ?_); rintro e w3 ⟨hb, oo, kk, rfl, hs⟩; have S3 := Lib.hid (S2.out.next hb); replace a0 := cell_later hb a0; replace a1 := cell_later hb a1; clear hb hs)
      have B3 := below_new' w3 (.cells #[.int .u8 op0, .int .i64 n0, .string u0, .slice oo vs0.length kk] 192)
      have P3 := Lib.hid (heap_alloc_at w3 (.cells #[.int .u8 op0, .int .i64 n0, .string u0, .slice oo vs0.length kk] 192))
      have S4 := Lib.hid (S3.out.next B3)
      replace a0 := cell_later B3 a0; replace a1 := cell_later B3 a1
      clear B3
      generalize w3.alloc (.cells #[.int .u8 op0, .int .i64 n0, .string u0, .slice oo vs0.length kk] 192) = w4 at P3 S4 a0 a1 ⊢
      generalize w3.heap.size = k10 at P3 ⊢
      go_upto_region 8 with (go_at_call 120; (with_reducible refine Calls.mono (HO1.out _ S4.out.bel) ?_); rintro e w5 ⟨hb, o2, kk2, rfl, hs⟩; have S5 := Lib.hid (S4.out.next hb); have P5 := Lib.hid ((hb.block _ (lt_of_heap P3.out)).trans P3.out); replace a0 := cell_later hb a0; replace a1 := cell_later hb a1; clear hb hs)
      have B5 := below_new' w5 (.cells #[.int .u8 op1, .int .i64 n1, .string u1, .slice o2 vs1.length kk2] 192)
      have P6 := (B5.block _ (lt_of_heap P5.out)).trans P5.out
      have Q6 := heap_alloc_at w5 (.cells #[.int .u8 op1, .int .i64 n1, .string u1, .slice o2 vs1.length kk2] 192)
      have S6 := Lib.hid (S5.out.next B5)
      replace a0 := cell_later B5 a0; replace a1 := cell_later B5 a1
      clear B5
      generalize w5.alloc (.cells #[.int .u8 op1, .int .i64 n1, .string u1, .slice o2 vs1.length kk2] 192) = w6 at P6 Q6 S6 a0 a1 ⊢
      generalize w5.heap.size = k12 at Q6 ⊢
      obtain ⟨g0, _, _, _⟩ := four P6
      obtain ⟨f0, _, _, _⟩ := four Q6
      clear P6 Q6 S5 S4 S3 S2 S1 SX P3 P5 HO0 HO1 HT2 HR
      have SN := HSN
      by_cases h0 : op0 = 80
      case neg =>
        have HVE := Lib.hid (HE.out.trans (HQ.out.trans (if_pos (.inl h0))))
        have e1 : (op0 == 80) = false := by simpa using h0
        have e2 : ((op0 : Int) == 80) = false := by simp; omega
        have e3 : ¬ ((op0 : Int) = 80) := by omega
        clear h0 f0 a0 a1
        go_wp2_with (first | (with_reducible refine wpList_store_row rfl 111 (.tmp 6) (.tmp 55) rfl xb #[.string ⟨#[]⟩, .int .i64 0, .int .i64 0, .string ⟨#[]⟩, .string ⟨#[]⟩, .string ⟨#[]⟩, .bool false] rfl rfl 111 _ S6.out.x (by kernel_rfl) rfl (by simp [Value.oneCell']) ?_))
        have hl := run_loadVar_row (P := Tryz.prog) (w6.setRow xb #[.string ⟨#[]⟩, .int .i64 0, .int .i64 0, .string ⟨#[]⟩, .string ⟨#[]⟩, .string ⟨#[]⟩, .bool false]) xb 111 111 #[.string ⟨#[]⟩, .int .i64 0, .int .i64 0, .string ⟨#[]⟩, .string ⟨#[]⟩, .string ⟨#[]⟩, .bool false] (0, 0) _ (setRow_heap w6 xb _ _ 111 _ S6.out.x) Tryz.underlying111 rfl (by kernel_rfl)
        have BB := below_setRow S6.out.bel (by have := HXB.out; have := S6.out.hx; omega) #[.string ⟨#[]⟩, .int .i64 0, .int .i64 0, .string ⟨#[]⟩, .string ⟨#[]⟩, .string ⟨#[]⟩, .bool false]
        exact bodyPost_ret (results_cell_tmp Tryz.results56 _ _ _ rfl hl) rfl ⟨by rw [HVE.out]; rfl, ⟨fr_of_below BB, by unfold peelM; rw [HVE.out]; exact (SN.out.below BB)⟩⟩
      subst h0
      by_cases h1 : op1 = 66
      case neg =>
        have HVE := Lib.hid (HE.out.trans (HQ.out.trans (if_pos (.inr h1))))
        have e1 : (op1 == 66) = false := by simpa using h1
        have e2 : ((op1 : Int) == 66) = false := by simp; omega
        have e3 : ¬ ((op1 : Int) = 66) := by omega
        clear h1 a0 a1
        go_wp2_with (first | (with_reducible refine wpList_store_row rfl 111 (.tmp 6) (.tmp 55) rfl xb #[.string ⟨#[]⟩, .int .i64 0, .int .i64 0, .string ⟨#[]⟩, .string ⟨#[]⟩, .string ⟨#[]⟩, .bool false] rfl rfl 111 _ S6.out.x (by kernel_rfl) rfl (by simp [Value.oneCell']) ?_))
        have hl := run_loadVar_row (P := Tryz.prog) (w6.setRow xb #[.string ⟨#[]⟩, .int .i64 0, .int .i64 0, .string ⟨#[]⟩, .string ⟨#[]⟩, .string ⟨#[]⟩, .bool false]) xb 111 111 #[.string ⟨#[]⟩, .int .i64 0, .int .i64 0, .string ⟨#[]⟩, .string ⟨#[]⟩, .string ⟨#[]⟩, .bool false] (0, 0) _ (setRow_heap w6 xb _ _ 111 _ S6.out.x) Tryz.underlying111 rfl (by kernel_rfl)
        have BB := below_setRow S6.out.bel (by have := HXB.out; have := S6.out.hx; omega) #[.string ⟨#[]⟩, .int .i64 0, .int .i64 0, .string ⟨#[]⟩, .string ⟨#[]⟩, .string ⟨#[]⟩, .bool false]
        exact bodyPost_ret (results_cell_tmp Tryz.results56 _ _ _ rfl hl) rfl ⟨by rw [HVE.out]; rfl, ⟨fr_of_below BB, by unfold peelM; rw [HVE.out]; exact (SN.out.below BB)⟩⟩
      subst h1
      have HQ1 : Hid (peelE k pk (some L) = peelH (some L) l0 (peelF c s uo Y)) := HE.out.trans (HQ.out.trans (if_neg (by decide)))
      clear HE HQ
      obtain ⟨es, ec, hmm, hkl⟩ := (HSN.out.below S6.out.bel).map
      have hlk := fun n => run_lookK l0 es ec mm L (w6.drewN n) hkl (((drewN_same w6 n).1.block mm (lt_of_heap_map hmm)).trans hmm)
      have m0 := (HSN.out.below S6.out.bel).cell
      clear hkl hmm
      obtain ⟨hd, hhd⟩ : ∃ b, decide (l0 ∈ L) = b := ⟨_, rfl⟩
      rw [hhd] at hlk
      have HHD := Lib.hid hhd
      clear hhd
      go_upto_region 10 with fail
      go_quiet (fail)
      have hb7 := (drewN_same w6 nq).1
      have S7 := Lib.hid (S6.out.next hb7)
      replace a0 := cell_later hb7 a0; replace a1 := cell_later hb7 a1
      clear hb7 g0 f0 S6 hlk m0
      generalize w6.drewN nq = w7 at S7 a0 a1 ⊢
      cases hd with
      | true =>
        have HVE : Hid (peelE k pk (some L) = (221, lay0, e0)) := HQ1.out.trans (if_pos HHD.out)
        clear a0 a1
        go_wp2_with (first | (with_reducible refine wpList_store_row rfl 111 (.tmp 6) (.tmp 69) rfl xb #[.string ⟨#[]⟩, .int .i64 0, .int .i64 0, .string ⟨#[]⟩, .string ⟨#[]⟩, .string ⟨#[]⟩, .bool false] rfl rfl 111 _ S7.out.x (by kernel_rfl) rfl (by simp [Value.oneCell']) ?_))
        have hl := run_loadVar_row (P := Tryz.prog) (w7.setRow xb #[.string ⟨#[]⟩, .int .i64 0, .int .i64 0, .string ⟨#[]⟩, .string ⟨#[]⟩, .string ⟨#[]⟩, .bool false]) xb 111 111 #[.string ⟨#[]⟩, .int .i64 0, .int .i64 0, .string ⟨#[]⟩, .string ⟨#[]⟩, .string ⟨#[]⟩, .bool false] (0, 0) _ (setRow_heap w7 xb _ _ 111 _ S7.out.x) Tryz.underlying111 rfl (by kernel_rfl)
        have BB := below_setRow S7.out.bel (by have := HXB.out; have := S7.out.hx; omega) #[.string ⟨#[]⟩, .int .i64 0, .int .i64 0, .string ⟨#[]⟩, .string ⟨#[]⟩, .string ⟨#[]⟩, .bool false]
        exact bodyPost_ret (results_cell_tmp Tryz.results56 _ _ _ rfl hl) rfl ⟨by rw [HVE.out]; rfl, ⟨fr_of_below BB, by unfold peelM; rw [HVE.out]; exact (SN.out.below BB)⟩⟩
      | false =>
        have HQ2 : Hid (peelE k pk (some L) = match peelF c s uo Y with | none => ((220 : Int), lay0, e0) | some (s, x) => if memFull (some L) = true then (3, lay0, e0) else (0, x, s)) := HQ1.out.trans (if_neg (by show ¬ decide (l0 ∈ L) = true; rw [HHD.out]; decide))
        clear HQ1
        go_upto_region 15 with (first | (go_at_call 118; (with_reducible refine Calls.mono (HG.out _ S7.out.bel) ?_); rintro e w8 ⟨rfl, hb⟩; have S8 := Lib.hid (S7.out.next hb); replace a0 := cell_later hb a0; replace a1 := cell_later hb a1; clear hb) | (go_at_call 59; (with_reducible refine Calls.mono (HU.out _ S8.out.bel) ?_); rintro e w9 ⟨rfl, hb⟩; have S9 := Lib.hid (S8.out.next hb); replace a0 := cell_later hb a0; clear hb a1) | (go_at_call 121; (with_reducible refine Calls.mono (HY.out _ S9.out.bel) ?_); rintro e w10 ⟨hb, ⟨xc, xa, xe, xp, xi, xl⟩, rfl, hx⟩; have S10 := Lib.hid (S9.out.next hb); have HXY := Lib.hid hx; replace a0 := cell_later hb a0; clear hb hx; dsimp only [Lay.cells, e0]))
        have B11 := below_new' w10 (.cells #[.string xc, .int .i64 xa, .int .i64 xe, .string xp, .string xi, .string ⟨#[]⟩, .bool xl] 111)
        have X11 := Lib.hid (heap_alloc_at w10 (.cells #[.string xc, .int .i64 xa, .int .i64 xe, .string xp, .string xi, .string ⟨#[]⟩, .bool xl] 111))
        have S11 := Lib.hid (S10.out.next B11)
        have NXB : Hid (xb < w10.heap.size) := lt_of_heap S10.out.x
        have NKB : Hid (w.heap.size ≤ w10.heap.size) := S10.out.bel.size
        replace a0 := cell_later B11 a0
        clear B11
        generalize w10.alloc (.cells #[.string xc, .int .i64 xa, .int .i64 xe, .string xp, .string xi, .string ⟨#[]⟩, .bool xl] 111) = w11 at X11 S11 a0 ⊢
        generalize w10.heap.size = nb at X11 NXB NKB ⊢
        clear S7 S8 S9 S10 HG HU HY
        by_cases hc : c = 0
        case neg =>
          have HVE : Hid (peelE k pk (some L) = (220, lay0, e0)) := HQ2.out.trans (by unfold peelF; rw [if_neg (fun h => hc h.2)])
          have e1 : (c == 0) = false := by simpa using hc
          clear a0
          go_wp2_with (first | (with_reducible refine wpList_store_row rfl 111 (.tmp 6) (.tmp 102) rfl xb #[.string ⟨#[]⟩, .int .i64 0, .int .i64 0, .string ⟨#[]⟩, .string ⟨#[]⟩, .string ⟨#[]⟩, .bool false] rfl rfl 111 _ S11.out.x (by kernel_rfl) rfl (by simp [Value.oneCell']) ?_))
          have hl := run_loadVar_row (P := Tryz.prog) (w11.setRow xb #[.string ⟨#[]⟩, .int .i64 0, .int .i64 0, .string ⟨#[]⟩, .string ⟨#[]⟩, .string ⟨#[]⟩, .bool false]) xb 111 111 #[.string ⟨#[]⟩, .int .i64 0, .int .i64 0, .string ⟨#[]⟩, .string ⟨#[]⟩, .string ⟨#[]⟩, .bool false] (0, 0) _ (setRow_heap w11 xb _ _ 111 _ S11.out.x) Tryz.underlying111 rfl (by kernel_rfl)
          have BB := below_setRow S11.out.bel (by have := HXB.out; have := S11.out.hx; omega) #[.string ⟨#[]⟩, .int .i64 0, .int .i64 0, .string ⟨#[]⟩, .string ⟨#[]⟩, .string ⟨#[]⟩, .bool false]
          exact bodyPost_ret (results_cell_tmp Tryz.results56 _ _ _ rfl hl) rfl ⟨by rw [HVE.out]; rfl, ⟨fr_of_below BB, by unfold peelM; rw [HVE.out]; exact (SN.out.below BB)⟩⟩
        subst hc
        cases uo with
        | false =>
          have HVE : Hid (peelE k pk (some L) = (220, lay0, e0)) := HQ2.out.trans (by unfold peelF; rw [if_neg (fun h => by cases h.1)])
          clear a0
          go_wp2_with (first | (with_reducible refine wpList_store_row rfl 111 (.tmp 6) (.tmp 102) rfl xb #[.string ⟨#[]⟩, .int .i64 0, .int .i64 0, .string ⟨#[]⟩, .string ⟨#[]⟩, .string ⟨#[]⟩, .bool false] rfl rfl 111 _ S11.out.x (by kernel_rfl) rfl (by simp [Value.oneCell']) ?_))
          have hl := run_loadVar_row (P := Tryz.prog) (w11.setRow xb #[.string ⟨#[]⟩, .int .i64 0, .int .i64 0, .string ⟨#[]⟩, .string ⟨#[]⟩, .string ⟨#[]⟩, .bool false]) xb 111 111 #[.string ⟨#[]⟩, .int .i64 0, .int .i64 0, .string ⟨#[]⟩, .string ⟨#[]⟩, .string ⟨#[]⟩, .bool false] (0, 0) _ (setRow_heap w11 xb _ _ 111 _ S11.out.x) Tryz.underlying111 rfl (by kernel_rfl)
          have BB := below_setRow S11.out.bel (by have := HXB.out; have := S11.out.hx; omega) #[.string ⟨#[]⟩, .int .i64 0, .int .i64 0, .string ⟨#[]⟩, .string ⟨#[]⟩, .string ⟨#[]⟩, .bool false]
          exact bodyPost_ret (results_cell_tmp Tryz.results56 _ _ _ rfl hl) rfl ⟨by rw [HVE.out]; rfl, ⟨fr_of_below BB, by unfold peelM; rw [HVE.out]; exact (SN.out.below BB)⟩⟩
        | true =>
          cases Y with
          | none =>
            have HVE : Hid (peelE k pk (some L) = (220, lay0, e0)) := HQ2.out.trans (by unfold peelF; rw [if_pos ⟨rfl, rfl⟩]; rfl)
            clear a0
            go_wp2_with (first | (with_reducible refine wpList_store_row rfl 111 (.tmp 6) (.tmp 102) rfl xb #[.string ⟨#[]⟩, .int .i64 0, .int .i64 0, .string ⟨#[]⟩, .string ⟨#[]⟩, .string ⟨#[]⟩, .bool false] rfl rfl 111 _ S11.out.x (by kernel_rfl) rfl (by simp [Value.oneCell']) ?_))
            have hl := run_loadVar_row (P := Tryz.prog) (w11.setRow xb #[.string ⟨#[]⟩, .int .i64 0, .int .i64 0, .string ⟨#[]⟩, .string ⟨#[]⟩, .string ⟨#[]⟩, .bool false]) xb 111 111 #[.string ⟨#[]⟩, .int .i64 0, .int .i64 0, .string ⟨#[]⟩, .string ⟨#[]⟩, .string ⟨#[]⟩, .bool false] (0, 0) _ (setRow_heap w11 xb _ _ 111 _ S11.out.x) Tryz.underlying111 rfl (by kernel_rfl)
            have BB := below_setRow S11.out.bel (by have := HXB.out; have := S11.out.hx; omega) #[.string ⟨#[]⟩, .int .i64 0, .int .i64 0, .string ⟨#[]⟩, .string ⟨#[]⟩, .string ⟨#[]⟩, .bool false]
            exact bodyPost_ret (results_cell_tmp Tryz.results56 _ _ _ rfl hl) rfl ⟨by rw [HVE.out]; rfl, ⟨fr_of_below BB, by unfold peelM; rw [HVE.out]; exact (SN.out.below BB)⟩⟩
          | some y =>
            obtain rfl := HXY.out y rfl
            have HQ3 : Hid (peelE k pk (some L) = if memFull (some L) = true then (3, lay0, e0) else (0, ⟨xc, xa, xe, xp, xi, xl⟩, s)) := HQ2.out.trans (by unfold peelF; rw [if_pos ⟨rfl, rfl⟩]; rfl)
            clear HQ2 HXY
            have hln := HLN.out
            by_cases hf : 4096 ≤ L.length
            · have HVE : Hid (peelE k pk (some L) = (3, lay0, e0)) := HQ3.out.trans (if_pos (by show decide _ = true; exact decide_eq_true hf))
              have hfi : (4096 : Int) ≤ (L.length : Int) := by omega
              go_wp2_with (first | (go_at_call 122; (with_reducible refine Calls.mono (seen_count base sb mm L _ (HSN.out.below S11.out.bel)) ?_); rintro e w12 ⟨rfl, hb⟩; have S12 := Lib.hid (S11.out.next hb); have X12 := Lib.hid ((hb.block _ (lt_of_heap X11.out)).trans X11.out); replace a0 := cell_later hb a0; clear hb) | (with_reducible refine wpList_store_row rfl 111 (.tmp 6) (.tmp 107) rfl xb #[.string ⟨#[]⟩, .int .i64 0, .int .i64 0, .string ⟨#[]⟩, .string ⟨#[]⟩, .string ⟨#[]⟩, .bool false] rfl rfl 111 _ S12.out.x (by kernel_rfl) rfl (by simp [Value.oneCell']) ?_))
              have hl := run_loadVar_row (P := Tryz.prog) (w12.setRow xb #[.string ⟨#[]⟩, .int .i64 0, .int .i64 0, .string ⟨#[]⟩, .string ⟨#[]⟩, .string ⟨#[]⟩, .bool false]) xb 111 111 #[.string ⟨#[]⟩, .int .i64 0, .int .i64 0, .string ⟨#[]⟩, .string ⟨#[]⟩, .string ⟨#[]⟩, .bool false] (0, 0) _ (setRow_heap w12 xb _ _ 111 _ S12.out.x) Tryz.underlying111 rfl (by kernel_rfl)
              have BB := below_setRow S12.out.bel (by have := HXB.out; have := S12.out.hx; omega) #[.string ⟨#[]⟩, .int .i64 0, .int .i64 0, .string ⟨#[]⟩, .string ⟨#[]⟩, .string ⟨#[]⟩, .bool false]
              exact bodyPost_ret (results_cell_tmp Tryz.results56 _ _ _ rfl hl) rfl ⟨by rw [HVE.out]; rfl, ⟨fr_of_below BB, by unfold peelM; rw [HVE.out]; exact (SN.out.below BB)⟩⟩
            · have hfi : (L.length : Int) < 4096 := by omega
              have HVE : Hid (peelE k pk (some L) = (0, ⟨xc, xa, xe, xp, xi, xl⟩, s)) := HQ3.out.trans (if_neg (by show ¬ decide _ = true; rw [decide_eq_false hf]; decide))
              have qfi := decN ((4096 : Int) ≤ (L.length : Int)) (by omega)
              go_upto_region 20 with (go_at_call 122; (with_reducible refine Calls.mono (seen_count base sb mm L _ (HSN.out.below S11.out.bel)) ?_); rintro e w12 ⟨rfl, hb⟩; have S12 := Lib.hid (S11.out.next hb); have X12 := Lib.hid ((hb.block _ (lt_of_heap X11.out)).trans X11.out); replace a0 := cell_later hb a0; clear hb)
              have m0 := (HSN.out.below S12.out.bel).cell
              have hm0 := (HSN.out.below S12.out.bel).map
              obtain ⟨es, ec, hmm, hkl⟩ := hm0
              have hno : l0 ∉ L := of_decide_eq_false HHD.out
              have hup := run_updK l0 (.bool true) es ec mm L w12.drew hkl hmm hno
              have HKL := Lib.hid hkl
              have HMM := Lib.hid hmm
              clear hkl hmm hno hln hfi qfi
              go_region
              have hmlt : mm < w.heap.size := by obtain ⟨_, _, h, _⟩ := HSN.out.map; exact lt_of_heap h
              have hslt : sb < w.heap.size := lt_of_heap HSN.out.s
              have hsm : sb ≠ mm := by
                intro e
                obtain ⟨_, _, h, _⟩ := HSN.out.map
                have := HSN.out.s
                rw [e, h] at this
                cases this
              have hxw := HXB.out
              have hnk := NKB.out
              have hnx := NXB.out
              have X13 : Hid ((putO w12.drew mm (Obj.map (es.push ⟨.string l0, .bool true, ec⟩) (ec + 1))).heap[nb]? = some (.cells #[.string xc, .int .i64 xa, .int .i64 xe, .string xp, .string xi, .string ⟨#[]⟩, .bool xl] 111 (0, 0))) := (putO_other (by omega)).trans X12.out
              have R13 : Hid ((putO w12.drew mm (Obj.map (es.push ⟨.string l0, .bool true, ec⟩) (ec + 1))).heap[xb]? = some (.cells #[.string ⟨#[]⟩, .int .i64 0, .int .i64 0, .string ⟨#[]⟩, .string ⟨#[]⟩, .string ⟨#[]⟩, .bool false] 111 (0, 0))) := (putO_other (by omega)).trans S12.out.x
              have F13 : Hid (Fr (fun b => b = mm) w (putO w12.drew mm (Obj.map (es.push ⟨.string l0, .bool true, ec⟩) (ec + 1)))) := ((fr_of_below S12.out.bel).drew).putO mm _ rfl
              have SN13 : Hid (SeenAt (putO w12.drew mm (Obj.map (es.push ⟨.string l0, .bool true, ec⟩) (ec + 1))) base sb mm (L ++ [l0])) := ⟨(putO_other hsm).trans (HSN.out.below S12.out.bel).s, ⟨_, _, putO_same (w := w12.drew) HMM.out, HKL.out.push l0 ec⟩, HSN.out.h1, HSN.out.h2⟩
              clear hup m0 HKL HMM a0
              generalize putO w12.drew mm (Obj.map (es.push ⟨.string l0, .bool true, ec⟩) (ec + 1)) = w13 at X13 R13 F13 SN13 ⊢
              have y5 := seven_five X13.out
              have z5 := seven_free X13.out 5
              go_upto_region 22 with fail
              clear y5 z5
              have X14 : Hid ((w13.setCell ⟨nb, 5, none⟩ (.string s)).heap[nb]? = some (.cells #[.string xc, .int .i64 xa, .int .i64 xe, .string xp, .string xi, .string s, .bool xl] 111 (0, 0))) := heap_setCell_same w13 nb 5 _ 111 _ X13.out
              have R14 : Hid ((w13.setCell ⟨nb, 5, none⟩ (.string s)).heap[xb]? = some (.cells #[.string ⟨#[]⟩, .int .i64 0, .int .i64 0, .string ⟨#[]⟩, .string ⟨#[]⟩, .string ⟨#[]⟩, .bool false] 111 (0, 0))) := (Below.heap_setCell _ _ _ _ (show xb ≠ nb by omega)).trans R13.out
              have F14 : Hid (Fr (fun b => b = mm) w (w13.setCell ⟨nb, 5, none⟩ (.string s))) := F13.out.set' _ _ (fun h => by exfalso; have h : nb < w.heap.size := h; omega)
              have SN14 : Hid (SeenAt (w13.setCell ⟨nb, 5, none⟩ (.string s)) base sb mm (L ++ [l0])) := SN13.out.blocks (Below.heap_setCell _ _ _ _ (show sb ≠ nb by omega)) (Below.heap_setCell _ _ _ _ (show mm ≠ nb by omega))
              generalize w13.setCell ⟨nb, 5, none⟩ (.string s) = w14 at X14 R14 F14 SN14 ⊢
              go_wp2_with (first | (with_reducible refine wpList_load_row rfl 111 (.tmp 18) rfl nb rfl 111 _ (0, 0) _ X14.out Tryz.underlying111 rfl (by kernel_rfl) ?_) | (with_reducible refine wpList_store_row rfl 111 (.tmp 6) (.tmp 120) rfl xb #[.string xc, .int .i64 xa, .int .i64 xe, .string xp, .string xi, .string s, .bool xl] rfl rfl 111 _ R14.out (by kernel_rfl) rfl (by simp [Value.oneCell']) ?_))
              have hl := run_loadVar_row (P := Tryz.prog) (w14.setRow xb #[.string xc, .int .i64 xa, .int .i64 xe, .string xp, .string xi, .string s, .bool xl]) xb 111 111 #[.string xc, .int .i64 xa, .int .i64 xe, .string xp, .string xi, .string s, .bool xl] (0, 0) _ (setRow_heap w14 xb _ _ 111 _ R14.out) Tryz.underlying111 rfl (by kernel_rfl)
              exact bodyPost_ret (results_cell_tmp Tryz.results56 _ _ _ rfl hl) rfl ⟨by rw [HVE.out]; rfl, F14.out.setR _ _ (fun h => by exfalso; omega), by
                unfold peelM
                rw [HVE.out, if_pos rfl, HF0.out]
                exact SN14.out.blocks (setRow_other _ _ _ _ (show sb ≠ xb by omega)) (setRow_other _ _ _ _ (show mm ≠ xb by omega))⟩
end Go.Proofs.YtbdimlppnhcicaaGreatDoor
