/- a packet peeled with a memory, the document's -/
import Derived.Test.YtbdimlppnhcicaaDoorOnM
import Derived.Deep.AppendLies
import Derived.Deep.RegionLaw
namespace Go.Proofs.YtbdimlppnhcicaaDoor
set_option linter.unusedVariables false
open Go.RowKit
/-! onion: a packet peeled with a memory, the document's -/
/-- the document's memory -/
structure DSn (w : World) (base sb : Nat) (v : Value) (L : List ByteArray) : Prop where
  s : w.heap[sb]? = some (.cells #[v] 39 (0, 0))
  own : w.ownsRow base 24 1 v L.length (L.map Value.string)
  h1 : base ≤ sb
theorem DSn.below {w w' : World} {base sb : Nat} {v : Value} {L : List ByteArray} (h : DSn w base sb v L) (hb : Below w.heap.size w w') : DSn w' base sb v L :=
  ⟨(hb.block sb (lt_of_heap h.s)).trans h.s, own_below h.own hb, h.h1⟩
theorem DSn.cell {w : World} {base sb : Nat} {v : Value} {L : List ByteArray} (h : DSn w base sb v L) : w.cell? ⟨sb, 0, none⟩ = some v := by rw [cell_of_row _ _ _ _ _ _ h.s]; rfl
def DAft (base sb : Nat) (v : Value) (L' : List ByteArray) (w w' : World) : Prop :=
  ∃ v', Fr (fun b => b = sb ∨ v.ownBlock = some b) w w' ∧ DSn w' base sb v' L' ∧ ∀ g, v'.ownBlock = some g → v.ownBlock = some g ∨ w.heap.size ≤ g
theorem daft_same {base sb : Nat} {v : Value} {L L' : List ByteArray} {w w' : World} (h : DSn w base sb v L) (hb : Below w.heap.size w w') (hl : L' = L) : DAft base sb v L' w w' := by
  subst hl
  exact ⟨v, fr_of_below hb, h.below hb, fun g hg => .inl hg⟩
theorem DSn.far {w w' : World} {base sb : Nat} {v : Value} {L : List ByteArray} (h : DSn w base sb v L) (hs : w'.heap[sb]? = w.heap[sb]?) (ho : ∀ g, v.ownBlock = some g → w'.heap[g]? = w.heap[g]?) : DSn w' base sb v L :=
  ⟨hs.trans h.s, own_blocks h.own ho, h.h1⟩
theorem dput {w : World} {base sb : Nat} {v v' : Value} {L : List ByteArray} (h : w.heap[sb]? = some (.cells #[v] 39 (0, 0))) (hown : w.ownsRow base 24 1 v' L.length (L.map Value.string)) (h1 : base ≤ sb) : DSn (w.setCell ⟨sb, 0, none⟩ v') base sb v' L :=
  ⟨heap_setCell_same w sb 0 _ 39 v' h, own_blocks hown fun g hg => Below.heap_setCell _ _ _ _ (own_neT hown h (by decide) g hg), h1⟩
theorem frS {w w' : World} {sb : Nat} {v : Value} (h : Fr (fun k => v.ownBlock = some k) w w') (v' : Value) (o : Unit) : Fr (fun b => b = sb ∨ v.ownBlock = some b) w (w'.setCell ⟨sb, 0, none⟩ v') :=
  ⟨h.os, h.tape, h.output, by simpa [World.setCell] using h.size, fun k hk hr => (Below.heap_setCell _ _ _ _ (fun e => hr (.inl e))).trans (h.block k hk (fun e => hr (.inr e)))⟩
theorem frD {w w2 w3 : World} {v : Value} (hB : Below w.heap.size w w2) (o : Obj) (hg : (w2.alloc o).drew.grownBy w3 v.ownBlock) : Fr (fun k => v.ownBlock = some k) w w3 :=
  have hB := hB.trans ((below_new' w2 o).mono hB.size)
  ⟨hg.os.trans hB.os, hg.tape.trans hB.tape, hg.output.trans hB.output, Nat.le_trans hB.size hg.size, fun k hk hs => (hg.block k (Nat.lt_of_lt_of_le hk hB.size) (fun e => hs e.symm)).trans (hB.block k hk)⟩
theorem dcell {w : World} {sb : Nat} {v : Value} {t : TypeId} {f : Nat × Nat} (h : w.heap[sb]? = some (.cells #[v] t f)) : w.cell? ⟨sb, 0, none⟩ = some v := by rw [cell_of_row _ _ _ _ _ _ h]; rfl
theorem dfroz {w : World} {sb : Nat} {v : Value} {t : TypeId} (h : w.heap[sb]? = some (.cells #[v] t (0, 0))) : w.frozen? ⟨sb, 0, none⟩ = false := by simp [World.frozen?, h]
theorem keepD {w2 w3 : World} {nb base n : Nat} {cs : Array Value} {t : TypeId} {fr : Nat × Nat} {v : Value} {xs : List Value} (h : w2.heap[nb]? = some (.cells cs t fr)) (o : Obj) (hg : (w2.alloc o).drew.grownBy w3 v.ownBlock) (hown : w2.ownsRow base 24 1 v n xs) (ht : t ≠ 24) : w3.heap[nb]? = some (.cells cs t fr) := by
  have h1 : (w2.alloc o).drew.heap[nb]? = some (.cells cs t fr) := (heap_alloc_old w2 o (lt_of_heap h)).trans h
  exact (hg.block nb (lt_of_heap h1) (fun e => own_neT hown h ht nb e.symm rfl)).trans h1
set_option maxRecDepth 100000 in
set_option maxHeartbeats 16000000 in
theorem dpeel_mem (k pk : ByteArray) (w : World) (base sb : Nat) (va : Option Addr) (vc : Nat) (L : List ByteArray) (hSn : DSn w base sb (.slice va L.length vc) L) (hbase : w.heap.size ≥ base) (hLn : L.length ≤ 4096) (hk : k.size ≤ maxLen) (hpk : pk.size ≤ maxLen) : Calls Tryd.prog 19 #[.string k, .string pk, .pointer (some ⟨sb, 0, none⟩)] w fun e w' => e = .returned (peelV (peelE k pk (some L))) ∧ DAft base sb (.slice va L.length vc) (peelM k pk L) w w' := by
  have HR : Hid (∀ W, Below w.heap.size w W → Calls Tryd.prog 56 #[.string k] W fun e w' => e = .returned (.bool (rightB k.data.toList)) ∧ Below W.heap.size W w') := fun W hW => rright_any k W hk
  have HRT : Hid (rightB k.data.toList = rt k) := rfl
  obtain ⟨r, hr⟩ : ∃ r, rightB k.data.toList = r := ⟨_, rfl⟩
  obtain ⟨q, hq⟩ : ∃ q, op4 pk.data.toList = q := ⟨_, rfl⟩
  have HT : Hid (∀ W, Below w.heap.size w W → Calls Tryd.prog 66 #[.string pk, .int .i64 2] W (KidsPostN q 2 W)) := fun W hW => by rw [← hq]; exact dtuple_new pk 2 W _ (by omega) (dopenN pk W hpk)
  have HE0 : Hid (peelE k pk (some L) = if r = false then (10, lay0, e0) else if isT q 2 = false then (220, lay0, e0) else peelQ k (q.vs.getD 0 e0) (q.vs.getD 1 e0) (some L)) := by
    show _ = _
    unfold peelE firstK secK
    rw [hq, ← hr, HRT.out]
  have HQK : Hid (∀ c ∈ q.vs, c.size ≤ 16384) := by rw [← hq]; exact op4_kid pk.data.toList
  have HFK : Hid (firstK pk = q.vs.getD 0 e0) := by show _ = _; unfold firstK; rw [hq]
  rw [hr] at HR
  clear hr hq HRT hpk
  have HSN := Lib.hid hSn
  have HLN := Lib.hid hLn
  clear hSn hLn
  go_enter Tryd.func19, Tryd.ntmps19
  go_upto_region 1 with fail
  have CX := heap_alloc_at w (.cells #[.string ⟨#[]⟩, .int .i64 0, .int .i64 0, .string ⟨#[]⟩, .string ⟨#[]⟩, .string ⟨#[]⟩, .bool false] 44)
  have B0 := below_new' w (.cells #[.string ⟨#[]⟩, .int .i64 0, .int .i64 0, .string ⟨#[]⟩, .string ⟨#[]⟩, .string ⟨#[]⟩, .bool false] 44)
  have SX : Hid (LSt w w.heap.size 44 #[.string ⟨#[]⟩, .int .i64 0, .int .i64 0, .string ⟨#[]⟩, .string ⟨#[]⟩, .string ⟨#[]⟩, .bool false] (w.alloc (.cells #[.string ⟨#[]⟩, .int .i64 0, .int .i64 0, .string ⟨#[]⟩, .string ⟨#[]⟩, .string ⟨#[]⟩, .bool false] 44))) := ⟨B0, CX, Nat.le_refl _⟩
  clear CX B0
  generalize w.alloc (.cells #[.string ⟨#[]⟩, .int .i64 0, .int .i64 0, .string ⟨#[]⟩, .string ⟨#[]⟩, .string ⟨#[]⟩, .bool false] 44) = w0 at SX ⊢
  obtain ⟨xb, hxb⟩ : ∃ x, w.heap.size = x := ⟨_, rfl⟩
  have HXB := Lib.hid hxb
  rw [hxb] at SX ⊢
  clear hxb
  cases r with
  | false =>
    have HV : Hid ((if false = false then (10, lay0, e0) else if isT q 2 = false then (220, lay0, e0) else peelQ k (q.vs.getD 0 e0) (q.vs.getD 1 e0) (some L)) = ((10 : Int), lay0, e0)) := if_pos rfl
    have SN := HSN
    go_wp2_with (first | (go_at_call 56; (with_reducible refine Calls.mono (HR.out _ SX.out.bel) ?_); rintro e w1 ⟨rfl, hb⟩; have S1 := Lib.hid (SX.out.next hb); clear hb) | (with_reducible refine wpList_store_row rfl 44 (.tmp 6) (.tmp 24) rfl xb #[.string ⟨#[]⟩, .int .i64 0, .int .i64 0, .string ⟨#[]⟩, .string ⟨#[]⟩, .string ⟨#[]⟩, .bool false] rfl rfl 44 _ S1.out.x (by kernel_rfl) rfl (by simp [Value.oneCell']) ?_))
    have hl := run_loadVar_row (P := Tryd.prog) (w1.setRow xb #[.string ⟨#[]⟩, .int .i64 0, .int .i64 0, .string ⟨#[]⟩, .string ⟨#[]⟩, .string ⟨#[]⟩, .bool false]) xb 44 44 #[.string ⟨#[]⟩, .int .i64 0, .int .i64 0, .string ⟨#[]⟩, .string ⟨#[]⟩, .string ⟨#[]⟩, .bool false] (0, 0) _ (setRow_heap w1 xb _ _ 44 _ S1.out.x) Tryd.underlying44 rfl (by kernel_rfl)
    have BB := below_setRow S1.out.bel (by have := HXB.out; have := S1.out.hx; omega) #[.string ⟨#[]⟩, .int .i64 0, .int .i64 0, .string ⟨#[]⟩, .string ⟨#[]⟩, .string ⟨#[]⟩, .bool false]
    exact bodyPost_ret (results_cell_tmp Tryd.results19 _ _ _ rfl hl) rfl ⟨by rw [HE0.out, HV.out]; rfl, daft_same SN.out BB (by unfold peelM; rw [HE0.out, HV.out]; rfl)⟩
  | true =>
    obtain ⟨b, hb⟩ : ∃ b, isT q 2 = b := ⟨_, rfl⟩
    have HB := Lib.hid hb
    clear hb
    cases b with
    | false =>
      have HV : Hid ((if true = false then (10, lay0, e0) else if isT q 2 = false then (220, lay0, e0) else peelQ k (q.vs.getD 0 e0) (q.vs.getD 1 e0) (some L)) = ((220 : Int), lay0, e0)) := (if_neg (by decide)).trans (if_pos HB.out)
      have SN := HSN
      go_wp2_with (first | (go_at_call 56; (with_reducible refine Calls.mono (HR.out _ SX.out.bel) ?_); rintro e w1 ⟨rfl, hb⟩; have S1 := Lib.hid (SX.out.next hb); clear hb) | (go_at_call 66; (with_reducible refine Calls.mono (HT.out _ S1.out.bel) ?_); rintro e w2 ⟨hb, o2, k2, rfl, hs⟩; have S2 := Lib.hid (S1.out.next hb); clear hb hs; have hb := HB.out; rw [hb]) | (with_reducible refine wpList_store_row rfl 44 (.tmp 6) (.tmp 32) rfl xb #[.string ⟨#[]⟩, .int .i64 0, .int .i64 0, .string ⟨#[]⟩, .string ⟨#[]⟩, .string ⟨#[]⟩, .bool false] rfl rfl 44 _ S2.out.x (by kernel_rfl) rfl (by simp [Value.oneCell']) ?_))
      have hl := run_loadVar_row (P := Tryd.prog) (w2.setRow xb #[.string ⟨#[]⟩, .int .i64 0, .int .i64 0, .string ⟨#[]⟩, .string ⟨#[]⟩, .string ⟨#[]⟩, .bool false]) xb 44 44 #[.string ⟨#[]⟩, .int .i64 0, .int .i64 0, .string ⟨#[]⟩, .string ⟨#[]⟩, .string ⟨#[]⟩, .bool false] (0, 0) _ (setRow_heap w2 xb _ _ 44 _ S2.out.x) Tryd.underlying44 rfl (by kernel_rfl)
      have BB := below_setRow S2.out.bel (by have := HXB.out; have := S2.out.hx; omega) #[.string ⟨#[]⟩, .int .i64 0, .int .i64 0, .string ⟨#[]⟩, .string ⟨#[]⟩, .string ⟨#[]⟩, .bool false]
      exact bodyPost_ret (results_cell_tmp Tryd.results19 _ _ _ rfl hl) rfl ⟨by rw [HE0.out, HV.out]; rfl, daft_same SN.out BB (by unfold peelM; rw [HE0.out, HV.out]; rfl)⟩
    | true =>
      obtain ⟨l0, l1, hv⟩ := two_of (isT_vs HB.out)
      have HV0 : Hid ((if true = false then (10, lay0, e0) else if isT q 2 = false then (220, lay0, e0) else peelQ k (q.vs.getD 0 e0) (q.vs.getD 1 e0) (some L)) = peelQ k l0 l1 (some L)) := by
        show _ = _
        rw [if_neg (by decide), if_neg (by rw [HB.out]; decide), hv]
        rfl
      have HE := Lib.hid (HE0.out.trans HV0.out)
      have hl0 := HQK.out l0 (by rw [hv]; simp)
      have hl1 := HQK.out l1 (by rw [hv]; simp)
      have HF0 : Hid (firstK pk = l0) := by show _ = _; rw [HFK.out, hv]; rfl
      have HT2 : Hid (∀ W, Below w.heap.size w W → Calls Tryd.prog 66 #[.string pk, .int .i64 2] W fun e w' => Below W.heap.size W w' ∧ ∃ lb k, e = .returned (.tuple #[.slice (some ⟨lb, 0, none⟩) 2 k, .bool true]) ∧ W.heap.size ≤ lb ∧ w'.cell? ⟨lb, 0, none⟩ = some (.string l0) ∧ w'.cell? ⟨lb, 1, none⟩ = some (.string l1)) := fun W hW => (HT.out W hW).mono fun _ _ hk => kids_two hk HB.out hv
      have HO0 : Hid (∀ W, Below w.heap.size w W → Calls Tryd.prog 67 #[.string l0] W (OneForm (op4 l0.data.toList) W)) := fun W hW => dopen_any l0 W (lt_max hl0)
      have HO1 : Hid (∀ W, Below w.heap.size w W → Calls Tryd.prog 67 #[.string l1] W (OneForm (op4 l1.data.toList) W)) := fun W hW => dopen_any l1 W (lt_max hl1)
      have HG : Hid (∀ W, Below w.heap.size w W → Calls Tryd.prog 59 #[.string k, .string l0] W fun e w' => e = .returned (.tuple #[.string (agreeP k l0).1, .int .i64 (agreeP k l0).2]) ∧ Below W.heap.size W w') := fun W hW => (ragree_any k l0 W (lt_max hl0) hk).mono fun _ _ h => ⟨by rw [h.1, agreeV_P]; rfl, h.2⟩
      have HU : Hid (∀ W, Below w.heap.size w W → Calls Tryd.prog 68 #[.string (agreeP k l0).1, .string l1] W fun e w' => e = .returned (.tuple #[.string ((unboxO (agreeP k l0).1 l1).getD e0), .bool (unboxO (agreeP k l0).1 l1).isSome]) ∧ Below W.heap.size W w') := fun W hW => (runbox_any (agreeP k l0).1 l1 W (lt_max hl1)).mono fun _ _ h => ⟨by rw [h.1, unboxV_O], h.2⟩
      have HY : Hid (∀ W, Below w.heap.size w W → Calls Tryd.prog 69 #[.string ((unboxO (agreeP k l0).1 l1).getD e0)] W (LayPost (layO ((unboxO (agreeP k l0).1 l1).getD e0)) W)) := fun W hW => dlayer_any _ W (lt_max (unboxO_getD _ _))
      have HQ : Hid (peelQ k l0 l1 (some L) = peelG (op4 l0.data.toList).op (op4 l1.data.toList).op l0 (some L) (agreeP k l0).2 (agreeP k l0).1 (unboxO (agreeP k l0).1 l1).isSome (layO ((unboxO (agreeP k l0).1 l1).getD e0))) := by
        show _ = _
        unfold peelQ peelG peelH
        rw [peelB_F]
      clear hv hl0 hl1 HV0 HT HB HE0
      generalize layO ((unboxO (agreeP k l0).1 l1).getD e0) = Y at HY HQ
      generalize (unboxO (agreeP k l0).1 l1).getD e0 = t at HU HY
      generalize (unboxO (agreeP k l0).1 l1).isSome = uo at HU HQ
      obtain ⟨s, hs⟩ : ∃ s, (agreeP k l0).1 = s := ⟨_, rfl⟩
      obtain ⟨c, hc⟩ : ∃ s, (agreeP k l0).2 = s := ⟨_, rfl⟩
      rw [hs] at HG HU HQ
      rw [hc] at HG HQ
      clear hs hc
      generalize op4 l0.data.toList = q0 at HO0 HQ
      generalize op4 l1.data.toList = q1 at HO1 HQ
      obtain ⟨op0, n0, u0, vs0, b0⟩ := q0
      obtain ⟨op1, n1, u1, vs1, b1⟩ := q1
      simp only at HO0 HO1 HQ
      go_upto_region 6 with (first | (go_at_call 56; (with_reducible refine Calls.mono (HR.out _ SX.out.bel) ?_); rintro e w1 ⟨rfl, hb⟩; have S1 := Lib.hid (SX.out.next hb); clear hb) | (go_at_call 66; (with_reducible refine Calls.mono (HT2.out _ S1.out.bel) ?_); rintro e w2 ⟨hb, lb, k2, rfl, hlb, a0, a1⟩; have S2 := Lib.hid (S1.out.next hb); clear hb hlb))
      go_upto_region 7 with (go_at_call 67; (with_reducible refine Calls.mono (HO0.out _ S2.out.bel) ?_); rintro e w3 ⟨hb, oo, kk, rfl, hs⟩; have S3 := Lib.hid (S2.out.next hb); replace a0 := cell_later hb a0; replace a1 := cell_later hb a1; clear hb hs)
      have B3 := below_new' w3 (.cells #[.int .u8 op0, .int .i64 n0, .string u0, .slice oo vs0.length kk] 112)
      have P3 := Lib.hid (heap_alloc_at w3 (.cells #[.int .u8 op0, .int .i64 n0, .string u0, .slice oo vs0.length kk] 112))
      have S4 := Lib.hid (S3.out.next B3)
      replace a0 := cell_later B3 a0; replace a1 := cell_later B3 a1
      clear B3
      generalize w3.alloc (.cells #[.int .u8 op0, .int .i64 n0, .string u0, .slice oo vs0.length kk] 112) = w4 at P3 S4 a0 a1 ⊢
      generalize w3.heap.size = k10 at P3 ⊢
      go_upto_region 8 with (go_at_call 67; (with_reducible refine Calls.mono (HO1.out _ S4.out.bel) ?_); rintro e w5 ⟨hb, o2, kk2, rfl, hs⟩; have S5 := Lib.hid (S4.out.next hb); have P5 := Lib.hid ((hb.block _ (lt_of_heap P3.out)).trans P3.out); replace a0 := cell_later hb a0; replace a1 := cell_later hb a1; clear hb hs)
      have B5 := below_new' w5 (.cells #[.int .u8 op1, .int .i64 n1, .string u1, .slice o2 vs1.length kk2] 112)
      have P6 := (B5.block _ (lt_of_heap P5.out)).trans P5.out
      have Q6 := heap_alloc_at w5 (.cells #[.int .u8 op1, .int .i64 n1, .string u1, .slice o2 vs1.length kk2] 112)
      have S6 := Lib.hid (S5.out.next B5)
      replace a0 := cell_later B5 a0; replace a1 := cell_later B5 a1
      clear B5
      generalize w5.alloc (.cells #[.int .u8 op1, .int .i64 n1, .string u1, .slice o2 vs1.length kk2] 112) = w6 at P6 Q6 S6 a0 a1 ⊢
      generalize w5.heap.size = k12 at Q6 ⊢
      obtain ⟨g0, _, _, _⟩ := four P6
      obtain ⟨f0, _, _, _⟩ := four Q6
      clear P6 Q6 S5 S4 S3 S2 S1 SX P3 P5 HO0 HO1 HT2 HR
      have SN := HSN
      by_cases h0 : op0 = 80
      case neg =>
        have HVE := Lib.hid (HE.out.trans (HQ.out.trans (if_pos (.inl h0))))
        have e1 : (op0 == 80) = false := by simpa using h0
        have e2 : ((op0 : Int) == 80) = false := by simp; omega
        have e3 : ¬ ((op0 : Int) = 80) := by omega
        clear h0 f0 a0 a1
        go_wp2_with (first | (with_reducible refine wpList_store_row rfl 44 (.tmp 6) (.tmp 55) rfl xb #[.string ⟨#[]⟩, .int .i64 0, .int .i64 0, .string ⟨#[]⟩, .string ⟨#[]⟩, .string ⟨#[]⟩, .bool false] rfl rfl 44 _ S6.out.x (by kernel_rfl) rfl (by simp [Value.oneCell']) ?_))
        have hl := run_loadVar_row (P := Tryd.prog) (w6.setRow xb #[.string ⟨#[]⟩, .int .i64 0, .int .i64 0, .string ⟨#[]⟩, .string ⟨#[]⟩, .string ⟨#[]⟩, .bool false]) xb 44 44 #[.string ⟨#[]⟩, .int .i64 0, .int .i64 0, .string ⟨#[]⟩, .string ⟨#[]⟩, .string ⟨#[]⟩, .bool false] (0, 0) _ (setRow_heap w6 xb _ _ 44 _ S6.out.x) Tryd.underlying44 rfl (by kernel_rfl)
        have BB := below_setRow S6.out.bel (by have := HXB.out; have := S6.out.hx; omega) #[.string ⟨#[]⟩, .int .i64 0, .int .i64 0, .string ⟨#[]⟩, .string ⟨#[]⟩, .string ⟨#[]⟩, .bool false]
        exact bodyPost_ret (results_cell_tmp Tryd.results19 _ _ _ rfl hl) rfl ⟨by rw [HVE.out]; rfl, daft_same SN.out BB (by unfold peelM; rw [HVE.out]; rfl)⟩
      subst h0
      by_cases h1 : op1 = 66
      case neg =>
        have HVE := Lib.hid (HE.out.trans (HQ.out.trans (if_pos (.inr h1))))
        have e1 : (op1 == 66) = false := by simpa using h1
        have e2 : ((op1 : Int) == 66) = false := by simp; omega
        have e3 : ¬ ((op1 : Int) = 66) := by omega
        clear h1 a0 a1
        go_wp2_with (first | (with_reducible refine wpList_store_row rfl 44 (.tmp 6) (.tmp 55) rfl xb #[.string ⟨#[]⟩, .int .i64 0, .int .i64 0, .string ⟨#[]⟩, .string ⟨#[]⟩, .string ⟨#[]⟩, .bool false] rfl rfl 44 _ S6.out.x (by kernel_rfl) rfl (by simp [Value.oneCell']) ?_))
        have hl := run_loadVar_row (P := Tryd.prog) (w6.setRow xb #[.string ⟨#[]⟩, .int .i64 0, .int .i64 0, .string ⟨#[]⟩, .string ⟨#[]⟩, .string ⟨#[]⟩, .bool false]) xb 44 44 #[.string ⟨#[]⟩, .int .i64 0, .int .i64 0, .string ⟨#[]⟩, .string ⟨#[]⟩, .string ⟨#[]⟩, .bool false] (0, 0) _ (setRow_heap w6 xb _ _ 44 _ S6.out.x) Tryd.underlying44 rfl (by kernel_rfl)
        have BB := below_setRow S6.out.bel (by have := HXB.out; have := S6.out.hx; omega) #[.string ⟨#[]⟩, .int .i64 0, .int .i64 0, .string ⟨#[]⟩, .string ⟨#[]⟩, .string ⟨#[]⟩, .bool false]
        exact bodyPost_ret (results_cell_tmp Tryd.results19 _ _ _ rfl hl) rfl ⟨by rw [HVE.out]; rfl, daft_same SN.out BB (by unfold peelM; rw [HVE.out]; rfl)⟩
      subst h1
      have HQ1 : Hid (peelE k pk (some L) = peelH (some L) l0 (peelF c s uo Y)) := HE.out.trans (HQ.out.trans (if_neg (by decide)))
      clear HE HQ
      go_upto_region 10 with fail
      have S7 := S6
      clear g0 f0 S6
      obtain ⟨w7, hw7⟩ : ∃ x, w6 = x := ⟨_, rfl⟩
      rw [hw7] at S7 a0 a1 ⊢
      clear hw7
      have hln := HLN.out
      go_wp2_with fail
      go_loopw [14] (fun iv wr => ∃ i : Nat, i ≤ L.length ∧ iv = .int .i64 i ∧ Hid (l0 ∉ L.take i) ∧ Hid (Below w7.heap.size w7 wr)) (fun iv _ => L.length - (intOf iv).toNat)
      case atStart => exact ⟨0, Nat.zero_le _, rfl, by show l0 ∉ L.take 0; simp, Below.refl _ _⟩
      case round =>
      obtain ⟨i, hi, rfl, hnt, hB⟩ := hrel
      have DW := Lib.hid ((HSN.out.below S7.out.bel).below hB.out)
      have d0 := DW.out.cell
      have S8 := Lib.hid (S7.out.next hB.out)
      replace a0 := cell_later hB.out a0; replace a1 := cell_later hB.out a1
      by_cases hlt : i < L.length
      case pos =>
        obtain ⟨y, hy⟩ : ∃ y, L[i]? = some y := ⟨_, List.getElem?_eq_getElem hlt⟩
        obtain ⟨g, cap, hvv, _, hrow⟩ := own_cells DW.out.own (show 0 < L.length by omega)
        cases hvv
        have r0 := hrow i _ (by rw [List.getElem?_map, hy]; rfl)
        have hii : (i : Int) < (L.length : Int) := by omega
        clear hrow
        by_cases he : y = l0
        case pos =>
          have hin : l0 ∈ L := by rw [← he]; exact List.mem_of_getElem? hy
          have HVE : Hid (peelE k pk (some L) = (221, lay0, e0)) := HQ1.out.trans (if_pos (decide_eq_true hin))
          subst he
          clear hy hnt hin a1
          go_upto_region 13 with fail
          go_quiet (fail)
          have S9 := Lib.hid (S8.out.next (drewN_same wr nq).1)
          clear a0 d0 r0
          generalize wr.drewN nq = w9 at S9 ⊢
          go_wp2_with (first | (with_reducible refine wpList_store_row rfl 44 (.tmp 6) (.tmp 80) rfl xb #[.string ⟨#[]⟩, .int .i64 0, .int .i64 0, .string ⟨#[]⟩, .string ⟨#[]⟩, .string ⟨#[]⟩, .bool false] rfl rfl 44 _ S9.out.x (by kernel_rfl) rfl (by simp [Value.oneCell']) ?_))
          have hl := run_loadVar_row (P := Tryd.prog) (w9.setRow xb #[.string ⟨#[]⟩, .int .i64 0, .int .i64 0, .string ⟨#[]⟩, .string ⟨#[]⟩, .string ⟨#[]⟩, .bool false]) xb 44 44 #[.string ⟨#[]⟩, .int .i64 0, .int .i64 0, .string ⟨#[]⟩, .string ⟨#[]⟩, .string ⟨#[]⟩, .bool false] (0, 0) _ (setRow_heap w9 xb _ _ 44 _ S9.out.x) Tryd.underlying44 rfl (by kernel_rfl)
          have BB := below_setRow S9.out.bel (by have := HXB.out; have := S9.out.hx; omega) #[.string ⟨#[]⟩, .int .i64 0, .int .i64 0, .string ⟨#[]⟩, .string ⟨#[]⟩, .string ⟨#[]⟩, .bool false]
          exact bodyPost_ret (results_cell_tmp Tryd.results19 _ _ _ rfl hl) rfl ⟨by rw [HVE.out]; rfl, daft_same SN.out BB (by unfold peelM; rw [HVE.out]; rfl)⟩
        case neg =>
          have q1 := toList_ne he
          have HNX : Hid (l0 ∉ L.take (i + 1)) := by
            show l0 ∉ _
            rw [List.take_add_one, hy]
            intro h
            rcases List.mem_append.1 h with h | h
            · exact hnt.out h
            · simp at h; exact he h.symm
          clear hy hnt he a1
          go_upto_region 13 with fail
          go_quiet (fail)
          go_wp2_with fail
          go_roundw
          case rel => exact ⟨i + 1, by omega, by go_num, HNX.out, below_drewN hB.out _⟩
          case measure => simp [intOf]; omega
      case neg =>
      obtain rfl : i = L.length := by omega
      have hnl : l0 ∉ L := by have := hnt.out; rwa [List.take_length] at this
      have HNL := Lib.hid hnl
      have qlt := decN (((L.length : Nat) : Int) < (L.length : Int)) (by omega)
      replace S7 := S8
      clear hnl hnt hlt S8 hB DW
      have HQ2 : Hid (peelE k pk (some L) = match peelF c s uo Y with | none => ((220 : Int), lay0, e0) | some (s, x) => if memFull (some L) = true then (3, lay0, e0) else (0, x, s)) := HQ1.out.trans (if_neg (by show ¬ decide (l0 ∈ L) = true; rw [decide_eq_false HNL.out]; decide))
      clear HQ1
      go_upto_region 18 with (first | (go_at_call 59; (with_reducible refine Calls.mono (HG.out _ S7.out.bel) ?_); rintro e w8 ⟨rfl, hb⟩; have S8 := Lib.hid (S7.out.next hb); replace a0 := cell_later hb a0; replace a1 := cell_later hb a1; clear hb) | (go_at_call 68; (with_reducible refine Calls.mono (HU.out _ S8.out.bel) ?_); rintro e w9 ⟨rfl, hb⟩; have S9 := Lib.hid (S8.out.next hb); replace a0 := cell_later hb a0; clear hb a1) | (go_at_call 69; (with_reducible refine Calls.mono (HY.out _ S9.out.bel) ?_); rintro e w10 ⟨hb, ⟨xc, xa, xe, xp, xi, xl⟩, rfl, hx⟩; have S10 := Lib.hid (S9.out.next hb); have HXY := Lib.hid hx; replace a0 := cell_later hb a0; clear hb hx; dsimp only [Lay.cells, e0]))
      have B11 := below_new' w10 (.cells #[.string xc, .int .i64 xa, .int .i64 xe, .string xp, .string xi, .string ⟨#[]⟩, .bool xl] 44)
      have X11 := Lib.hid (heap_alloc_at w10 (.cells #[.string xc, .int .i64 xa, .int .i64 xe, .string xp, .string xi, .string ⟨#[]⟩, .bool xl] 44))
      have S11 := Lib.hid (S10.out.next B11)
      have NXB : Hid (xb < w10.heap.size) := lt_of_heap S10.out.x
      have NKB : Hid (w.heap.size ≤ w10.heap.size) := S10.out.bel.size
      replace a0 := cell_later B11 a0
      clear B11
      generalize w10.alloc (.cells #[.string xc, .int .i64 xa, .int .i64 xe, .string xp, .string xi, .string ⟨#[]⟩, .bool xl] 44) = w11 at X11 S11 a0 ⊢
      generalize w10.heap.size = nb at X11 NXB NKB ⊢
      clear S7 S8 S9 S10 HG HU HY d0
      by_cases hc : c = 0
      case neg =>
        have HVE : Hid (peelE k pk (some L) = (220, lay0, e0)) := HQ2.out.trans (by unfold peelF; rw [if_neg (fun h => hc h.2)])
        have e1 : (c == 0) = false := by simpa using hc
        clear a0
        go_wp2_with (first | (with_reducible refine wpList_store_row rfl 44 (.tmp 6) (.tmp 112) rfl xb #[.string ⟨#[]⟩, .int .i64 0, .int .i64 0, .string ⟨#[]⟩, .string ⟨#[]⟩, .string ⟨#[]⟩, .bool false] rfl rfl 44 _ S11.out.x (by kernel_rfl) rfl (by simp [Value.oneCell']) ?_))
        have hl := run_loadVar_row (P := Tryd.prog) (w11.setRow xb #[.string ⟨#[]⟩, .int .i64 0, .int .i64 0, .string ⟨#[]⟩, .string ⟨#[]⟩, .string ⟨#[]⟩, .bool false]) xb 44 44 #[.string ⟨#[]⟩, .int .i64 0, .int .i64 0, .string ⟨#[]⟩, .string ⟨#[]⟩, .string ⟨#[]⟩, .bool false] (0, 0) _ (setRow_heap w11 xb _ _ 44 _ S11.out.x) Tryd.underlying44 rfl (by kernel_rfl)
        have BB := below_setRow S11.out.bel (by have := HXB.out; have := S11.out.hx; omega) #[.string ⟨#[]⟩, .int .i64 0, .int .i64 0, .string ⟨#[]⟩, .string ⟨#[]⟩, .string ⟨#[]⟩, .bool false]
        exact bodyPost_ret (results_cell_tmp Tryd.results19 _ _ _ rfl hl) rfl ⟨by rw [HVE.out]; rfl, daft_same SN.out BB (by unfold peelM; rw [HVE.out]; rfl)⟩
      subst hc
      cases uo with
      | false =>
        have HVE : Hid (peelE k pk (some L) = (220, lay0, e0)) := HQ2.out.trans (by unfold peelF; rw [if_neg (fun h => by cases h.1)])
        clear a0
        go_wp2_with (first | (with_reducible refine wpList_store_row rfl 44 (.tmp 6) (.tmp 112) rfl xb #[.string ⟨#[]⟩, .int .i64 0, .int .i64 0, .string ⟨#[]⟩, .string ⟨#[]⟩, .string ⟨#[]⟩, .bool false] rfl rfl 44 _ S11.out.x (by kernel_rfl) rfl (by simp [Value.oneCell']) ?_))
        have hl := run_loadVar_row (P := Tryd.prog) (w11.setRow xb #[.string ⟨#[]⟩, .int .i64 0, .int .i64 0, .string ⟨#[]⟩, .string ⟨#[]⟩, .string ⟨#[]⟩, .bool false]) xb 44 44 #[.string ⟨#[]⟩, .int .i64 0, .int .i64 0, .string ⟨#[]⟩, .string ⟨#[]⟩, .string ⟨#[]⟩, .bool false] (0, 0) _ (setRow_heap w11 xb _ _ 44 _ S11.out.x) Tryd.underlying44 rfl (by kernel_rfl)
        have BB := below_setRow S11.out.bel (by have := HXB.out; have := S11.out.hx; omega) #[.string ⟨#[]⟩, .int .i64 0, .int .i64 0, .string ⟨#[]⟩, .string ⟨#[]⟩, .string ⟨#[]⟩, .bool false]
        exact bodyPost_ret (results_cell_tmp Tryd.results19 _ _ _ rfl hl) rfl ⟨by rw [HVE.out]; rfl, daft_same SN.out BB (by unfold peelM; rw [HVE.out]; rfl)⟩
      | true =>
        cases Y with
        | none =>
          have HVE : Hid (peelE k pk (some L) = (220, lay0, e0)) := HQ2.out.trans (by unfold peelF; rw [if_pos ⟨rfl, rfl⟩]; rfl)
          clear a0
          go_wp2_with (first | (with_reducible refine wpList_store_row rfl 44 (.tmp 6) (.tmp 112) rfl xb #[.string ⟨#[]⟩, .int .i64 0, .int .i64 0, .string ⟨#[]⟩, .string ⟨#[]⟩, .string ⟨#[]⟩, .bool false] rfl rfl 44 _ S11.out.x (by kernel_rfl) rfl (by simp [Value.oneCell']) ?_))
          have hl := run_loadVar_row (P := Tryd.prog) (w11.setRow xb #[.string ⟨#[]⟩, .int .i64 0, .int .i64 0, .string ⟨#[]⟩, .string ⟨#[]⟩, .string ⟨#[]⟩, .bool false]) xb 44 44 #[.string ⟨#[]⟩, .int .i64 0, .int .i64 0, .string ⟨#[]⟩, .string ⟨#[]⟩, .string ⟨#[]⟩, .bool false] (0, 0) _ (setRow_heap w11 xb _ _ 44 _ S11.out.x) Tryd.underlying44 rfl (by kernel_rfl)
          have BB := below_setRow S11.out.bel (by have := HXB.out; have := S11.out.hx; omega) #[.string ⟨#[]⟩, .int .i64 0, .int .i64 0, .string ⟨#[]⟩, .string ⟨#[]⟩, .string ⟨#[]⟩, .bool false]
          exact bodyPost_ret (results_cell_tmp Tryd.results19 _ _ _ rfl hl) rfl ⟨by rw [HVE.out]; rfl, daft_same SN.out BB (by unfold peelM; rw [HVE.out]; rfl)⟩
        | some y =>
          obtain rfl := HXY.out y rfl
          have HQ3 : Hid (peelE k pk (some L) = if memFull (some L) = true then (3, lay0, e0) else (0, ⟨xc, xa, xe, xp, xi, xl⟩, s)) := HQ2.out.trans (by unfold peelF; rw [if_pos ⟨rfl, rfl⟩]; rfl)
          clear HQ2 HXY
          have m0 := (HSN.out.below S11.out.bel).cell
          by_cases hf : 4096 ≤ L.length
          case pos =>
            have HVE : Hid (peelE k pk (some L) = (3, lay0, e0)) := HQ3.out.trans (if_pos (by show decide _ = true; exact decide_eq_true hf))
            have hfi : (4096 : Int) ≤ (L.length : Int) := by omega
            clear a0
            go_wp2_with (first | (with_reducible refine wpList_store_row rfl 44 (.tmp 6) (.tmp 123) rfl xb #[.string ⟨#[]⟩, .int .i64 0, .int .i64 0, .string ⟨#[]⟩, .string ⟨#[]⟩, .string ⟨#[]⟩, .bool false] rfl rfl 44 _ S11.out.x (by kernel_rfl) rfl (by simp [Value.oneCell']) ?_))
            have hl := run_loadVar_row (P := Tryd.prog) (w11.setRow xb #[.string ⟨#[]⟩, .int .i64 0, .int .i64 0, .string ⟨#[]⟩, .string ⟨#[]⟩, .string ⟨#[]⟩, .bool false]) xb 44 44 #[.string ⟨#[]⟩, .int .i64 0, .int .i64 0, .string ⟨#[]⟩, .string ⟨#[]⟩, .string ⟨#[]⟩, .bool false] (0, 0) _ (setRow_heap w11 xb _ _ 44 _ S11.out.x) Tryd.underlying44 rfl (by kernel_rfl)
            have BB := below_setRow S11.out.bel (by have := HXB.out; have := S11.out.hx; omega) #[.string ⟨#[]⟩, .int .i64 0, .int .i64 0, .string ⟨#[]⟩, .string ⟨#[]⟩, .string ⟨#[]⟩, .bool false]
            exact bodyPost_ret (results_cell_tmp Tryd.results19 _ _ _ rfl hl) rfl ⟨by rw [HVE.out]; rfl, daft_same SN.out BB (by unfold peelM; rw [HVE.out]; rfl)⟩
          have hfi : (L.length : Int) < 4096 := by omega
          have HVE : Hid (peelE k pk (some L) = (0, ⟨xc, xa, xe, xp, xi, xl⟩, s)) := HQ3.out.trans (if_neg (by show ¬ decide _ = true; rw [decide_eq_false hf]; decide))
          have qfi := decN ((4096 : Int) ≤ (L.length : Int)) (by omega)
          go_upto_region 23 with fail
          obtain ⟨i0, hi0, hz0, hz1, hz2⟩ := info_parts Tryd.info24'
          have DW := Lib.hid (HSN.out.below S11.out.bel)
          have hb11 : base ≤ w11.heap.size := by have := S11.out.bel.size; omega
          have m0' := cell_later (below_new' w11 (.cells #[.string l0] 24)) m0
          go_region_law ((refine step_append_lies _ (by rfl) _ _ _ (by rfl) base 24 i0 _ 1 16 Tryd.underlying22 hi0 hz0 hz1 hz2 rfl (by omega) (.slice va L.length vc) L.length (L.map Value.string) (by rfl) ((DW.out.own.alloc _).drew) ⟨w11.heap.size, 0, none⟩ 1 1 [.string l0] (by rfl) (by rfl) (World.news_of_block (cs := #[.string l0]) (t := 24) (fr := (0, 0)) (heap_alloc_at w11 _)) (by simp [Value.oneCell']) (by omega) (by unfold maxLen; omega) (by omega) (by simp; omega) (w11.heap.size + 1) (by simp) ?_; intro g7 cap7 w12 hown7 hgrow7 hat7 hlt7; have HFR := Lib.hid (frD S11.out.bel (.cells #[.string l0] 24) hgrow7); have k7 := HFR.out.block sb (lt_of_heap HSN.out.s) (fun e => own_neT HSN.out.own HSN.out.s (by decide) sb e rfl); have c7 := dcell (k7.trans HSN.out.s); have f7 := dfroz (k7.trans HSN.out.s); have HX7 := Lib.hid (keepD X11.out (.cells #[.string l0] 24) hgrow7 DW.out.own (by decide)); have HR7 := Lib.hid (keepD S11.out.x (.cells #[.string l0] 24) hgrow7 DW.out.own (by decide)); have HO7 := Lib.hid hown7; have HA7 := Lib.hid hat7; clear hown7 hgrow7 hat7 k7))
          all_goals
            have hslt : sb < w.heap.size := lt_of_heap HSN.out.s
            have hxw := HXB.out
            have hnk := NKB.out
            have hnx := NXB.out
            have hks : w12.heap[sb]? = some (.cells #[.slice va L.length vc] 39 (0, 0)) := (HFR.out.block sb hslt (fun e => own_neT HSN.out.own HSN.out.s (by decide) sb e rfl)).trans HSN.out.s
            have hown : w12.ownsRow base 24 1 (.slice (some ⟨g7, 0, none⟩) (L.length + 1) cap7) (L ++ [l0]).length ((L ++ [l0]).map Value.string) := by
              rw [List.length_append, List.map_append]; exact HO7.out
            have DS : Hid (DSn (w12.setCell ⟨sb, 0, none⟩ (.slice (some ⟨g7, 0, none⟩) (L.length + 1) cap7)) base sb (.slice (some ⟨g7, 0, none⟩) (L.length + 1) cap7) (L ++ [l0])) := dput hks hown HSN.out.h1
            have X13 : Hid ((w12.setCell ⟨sb, 0, none⟩ (.slice (some ⟨g7, 0, none⟩) (L.length + 1) cap7)).heap[nb]? = some (.cells #[.string xc, .int .i64 xa, .int .i64 xe, .string xp, .string xi, .string ⟨#[]⟩, .bool xl] 44 (0, 0))) := (Below.heap_setCell _ _ _ _ (show nb ≠ sb by omega)).trans HX7.out
            have R13 : Hid ((w12.setCell ⟨sb, 0, none⟩ (.slice (some ⟨g7, 0, none⟩) (L.length + 1) cap7)).heap[xb]? = some (.cells #[.string ⟨#[]⟩, .int .i64 0, .int .i64 0, .string ⟨#[]⟩, .string ⟨#[]⟩, .string ⟨#[]⟩, .bool false] 44 (0, 0))) := (Below.heap_setCell _ _ _ _ (show xb ≠ sb by omega)).trans HR7.out
            have F13 : Hid (Fr (fun b => b = sb ∨ (Value.slice va L.length vc).ownBlock = some b) w (w12.setCell ⟨sb, 0, none⟩ (.slice (some ⟨g7, 0, none⟩) (L.length + 1) cap7))) := frS HFR.out _ ()
            have HA : Hid ((Value.slice va L.length vc).ownBlock = some g7 ∨ w.heap.size ≤ g7) := by
              rcases HA7.out with h | h
              · exact .inl h
              · right; have := S11.out.bel.size; omega
            clear hks hown HO7 HX7 HR7 HFR HA7 c7 f7 hlt7 m0 m0' a0 hfi qfi
            generalize w12.setCell ⟨sb, 0, none⟩ (.slice (some ⟨g7, 0, none⟩) (L.length + 1) cap7) = w13 at X13 R13 F13 DS ⊢
            have y5 := seven_five X13.out
            have z5 := seven_free X13.out 5
            go_upto_region 25 with fail
            clear y5 z5
            have X14 : Hid ((w13.setCell ⟨nb, 5, none⟩ (.string s)).heap[nb]? = some (.cells #[.string xc, .int .i64 xa, .int .i64 xe, .string xp, .string xi, .string s, .bool xl] 44 (0, 0))) := heap_setCell_same w13 nb 5 _ 44 _ X13.out
            have R14 : Hid ((w13.setCell ⟨nb, 5, none⟩ (.string s)).heap[xb]? = some (.cells #[.string ⟨#[]⟩, .int .i64 0, .int .i64 0, .string ⟨#[]⟩, .string ⟨#[]⟩, .string ⟨#[]⟩, .bool false] 44 (0, 0))) := (Below.heap_setCell _ _ _ _ (show xb ≠ nb by omega)).trans R13.out
            have F14 : Hid (Fr (fun b => b = sb ∨ (Value.slice va L.length vc).ownBlock = some b) w (w13.setCell ⟨nb, 5, none⟩ (.string s))) := F13.out.set' _ _ (fun h => by exfalso; have h : nb < w.heap.size := h; omega)
            have DS14 : Hid (DSn (w13.setCell ⟨nb, 5, none⟩ (.string s)) base sb (.slice (some ⟨g7, 0, none⟩) (L.length + 1) cap7) (L ++ [l0])) := DS.out.far (Below.heap_setCell _ _ _ _ (show sb ≠ nb by omega)) (fun g hg => Below.heap_setCell _ _ _ _ (own_neT DS.out.own X13.out (by decide) g hg))
            generalize w13.setCell ⟨nb, 5, none⟩ (.string s) = w14 at X14 R14 F14 DS14 ⊢
            go_wp2_with (first | (with_reducible refine wpList_load_row rfl 44 (.tmp 19) rfl nb rfl 44 _ (0, 0) _ X14.out Tryd.underlying44 rfl (by kernel_rfl) ?_) | (with_reducible refine wpList_store_row rfl 44 (.tmp 6) (.tmp 140) rfl xb #[.string xc, .int .i64 xa, .int .i64 xe, .string xp, .string xi, .string s, .bool xl] rfl rfl 44 _ R14.out (by kernel_rfl) rfl (by simp [Value.oneCell']) ?_))
            have hl := run_loadVar_row (P := Tryd.prog) (w14.setRow xb #[.string xc, .int .i64 xa, .int .i64 xe, .string xp, .string xi, .string s, .bool xl]) xb 44 44 #[.string xc, .int .i64 xa, .int .i64 xe, .string xp, .string xi, .string s, .bool xl] (0, 0) _ (setRow_heap w14 xb _ _ 44 _ R14.out) Tryd.underlying44 rfl (by kernel_rfl)
            exact bodyPost_ret (results_cell_tmp Tryd.results19 _ _ _ rfl hl) rfl ⟨by rw [HVE.out]; rfl, _, F14.out.setR _ _ (fun h => by exfalso; omega), by
              unfold peelM
              rw [HVE.out, if_pos rfl, HF0.out]
              exact DS14.out.far (setRow_other _ _ _ _ (show sb ≠ xb by omega)) (fun g hg => setRow_other _ _ _ _ (own_neT DS14.out.own R14.out (by decide) g hg)), fun g hg => by
              simp only [Value.ownBlock, Option.some.injEq] at hg
              subst hg
              exact HA.out⟩
end Go.Proofs.YtbdimlppnhcicaaDoor
