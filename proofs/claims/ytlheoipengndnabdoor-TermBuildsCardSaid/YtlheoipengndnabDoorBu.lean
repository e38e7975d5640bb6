import Derived.Test.YtlheoipengndnabDoorBldG
import Derived.Deep.CutRange
import Derived.BigRegion
import Derived.Test.YtlheoipengndnabDoorWorks
import Derived.Test.YtlheoipengndnabDoorLater
/- term: the document's Joint, Bound, Agree. -/
namespace Go.Proofs.YtlheoipengndnabDoor
set_option linter.unusedVariables false
open Go.RowKit
set_option maxRecDepth 100000 in
set_option maxHeartbeats 4000000 in
theorem rjoint_any (a b : ByteArray) (w : World) (ha : a.size ≤ maxLen) (hb : b.size ≤ maxLen) : Calls Tryd.prog 20 #[.string a, .string b] w fun e w' => e = .returned (jointV a b) ∧ Below w.heap.size w w' := by
  have HA := Lib.hid (fun W => rright_any a W ha)
  have HB := Lib.hid (fun W => rright_any b W hb)
  unfold jointV rt
  cases hra : rightB a.data.toList with
  | false =>
    rw [hra] at HA
    simp only [Bool.false_and, Bool.false_eq_true, if_false]
    unfold errTerm
    clear hra
    go_enter Tryd.func20, Tryd.ntmps20
    go_wp2_with (go_at_call 35; (with_reducible refine Calls.mono (HA.out _) ?_); rintro e w1 ⟨rfl, hb⟩; have B1 : Hid (Below w.heap.size w w1) := hb; clear hb)
    go_ret2
    exact ⟨rfl, B1.out⟩
  | true =>
    rw [hra] at HA
    have sza := right_size (v := a) hra
    obtain ⟨ca, la, ea, _⟩ := right_cons hra
    obtain ⟨pa, hca⟩ := byte_at a 0 ca la ea
    have pai : (0 : Int) < (a.size : Int) := by omega
    obtain ⟨za, hza⟩ : ∃ z : Int, (ca.toNat : Int) = z := ⟨_, rfl⟩
    have PA := Lib.hid (fun W => rpublic_rt a ca la ea za hza W)
    cases hrb : rightB b.data.toList with
    | false =>
      rw [hrb] at HB
      simp only [Bool.and_false, Bool.false_and, Bool.false_eq_true, if_false]
      unfold errTerm
      clear hra hrb PA ea
      go_enter Tryd.func20, Tryd.ntmps20
      go_wp2_with (first
        | (have hq := B1; (go_at_call 35; (with_reducible refine Calls.mono (HB.out _) ?_); rintro e w2 ⟨rfl, hb⟩; have B2 : Hid (Below w.heap.size w w2) := B1.out.trans (hb.mono B1.out.size); clear hb hq))
        | (go_at_call 35; (with_reducible refine Calls.mono (HA.out _) ?_); rintro e w1 ⟨rfl, hb⟩; have B1 : Hid (Below w.heap.size w w1) := hb; clear hb))
      go_ret2
      exact ⟨rfl, B2.out⟩
    | true =>
      rw [hrb] at HB
      have szb := right_size (v := b) hrb
      obtain ⟨cb, lb, eb, _⟩ := right_cons hrb
      obtain ⟨pb, hcb⟩ := byte_at b 0 cb lb eb
      have pbi : (0 : Int) < (b.size : Int) := by omega
      obtain ⟨zb, hzb⟩ : ∃ z : Int, (cb.toNat : Int) = z := ⟨_, rfl⟩
      have PB := Lib.hid (fun W => rpublic_rt b cb lb eb zb hzb W)
      cases hpa : pubK a with
      | false =>
        rw [hpa] at PA
        simp only [Bool.and_false, Bool.and_true, Bool.false_and, Bool.false_eq_true, if_false]
        unfold errTerm
        clear hra hrb hpa PB ea eb
        go_enter Tryd.func20, Tryd.ntmps20
        go_wp2_with (first
          | (have hq := B1; (go_at_call 35; (with_reducible refine Calls.mono (HB.out _) ?_); rintro e w2 ⟨rfl, hb⟩; have B2 : Hid (Below w.heap.size w w2) := B1.out.trans (hb.mono B1.out.size); clear hb hq))
          | (go_at_call 35; (with_reducible refine Calls.mono (HA.out _) ?_); rintro e w1 ⟨rfl, hb⟩; have B1 : Hid (Below w.heap.size w w1) := hb; clear hb)
          | (go_at_call 38; (with_reducible refine Calls.mono (PA.out _) ?_); rintro e w' ⟨rfl, rfl⟩; have TK : True := trivial))
        go_ret2
        exact ⟨rfl, B2.out⟩
      | true =>
        rw [hpa] at PA
        cases hpb : pubK b with
        | false =>
          rw [hpb] at PB
          simp only [Bool.and_false, Bool.and_true, Bool.false_eq_true, if_false]
          unfold errTerm
          clear hra hrb hpa hpb ea eb
          go_enter Tryd.func20, Tryd.ntmps20
          go_wp2_with (first
            | (have hq := B1; (go_at_call 35; (with_reducible refine Calls.mono (HB.out _) ?_); rintro e w2 ⟨rfl, hb⟩; have B2 : Hid (Below w.heap.size w w2) := B1.out.trans (hb.mono B1.out.size); clear hb hq))
            | (go_at_call 35; (with_reducible refine Calls.mono (HA.out _) ?_); rintro e w1 ⟨rfl, hb⟩; have B1 : Hid (Below w.heap.size w w1) := hb; clear hb)
            | (have hq := TK; (go_at_call 38; (with_reducible refine Calls.mono (PB.out _) ?_); rintro e w' ⟨rfl, rfl⟩; clear hq))
            | (go_at_call 38; (with_reducible refine Calls.mono (PA.out _) ?_); rintro e w' ⟨rfl, rfl⟩; have TK : True := trivial))
          go_ret2
          exact ⟨rfl, B2.out⟩
        | true =>
          rw [hpb] at PB
          simp only [Bool.and_true, if_true]
          have HC : Hid (∀ W, Calls Tryd.prog 18 #[.int .u8 87, .string a, .string b] W fun e w' => e = .returned (buildV ⟨#[87]⟩ [a, b]) ∧ Below W.heap.size W w') := fun W => rtwo_any 87 a b W ha hb
          obtain ⟨s, n, hs⟩ := buildV_tuple ⟨#[87]⟩ [a, b]
          rw [hs] at HC ⊢
          clear hra hrb hpa hpb hs ea eb
          go_enter Tryd.func20, Tryd.ntmps20
          go_wp2_with (first
            | (have hq := B1; (go_at_call 35; (with_reducible refine Calls.mono (HB.out _) ?_); rintro e w2 ⟨rfl, hb⟩; have B2 : Hid (Below w.heap.size w w2) := B1.out.trans (hb.mono B1.out.size); clear hb hq))
            | (go_at_call 35; (with_reducible refine Calls.mono (HA.out _) ?_); rintro e w1 ⟨rfl, hb⟩; have B1 : Hid (Below w.heap.size w w1) := hb; clear hb)
            | (have hq := TK; (go_at_call 38; (with_reducible refine Calls.mono (PB.out _) ?_); rintro e w' ⟨rfl, rfl⟩; clear hq))
            | (go_at_call 38; (with_reducible refine Calls.mono (PA.out _) ?_); rintro e w' ⟨rfl, rfl⟩; have TK : True := trivial)
            | (go_at_call 18; (with_reducible refine Calls.mono (HC.out _) ?_); rintro e w3 ⟨rfl, hb⟩; have B3 : Hid (Below w.heap.size w w3) := B2.out.trans (hb.mono B2.out.size); clear hb))
          go_ret2
          exact ⟨rfl, B3.out⟩
set_option maxRecDepth 100000 in
set_option maxHeartbeats 4000000 in
theorem rbound_any (a b : ByteArray) (w : World) (ha : a.size ≤ maxLen) (hb : b.size ≤ maxLen) : Calls Tryd.prog 21 #[.string a, .string b] w fun e w' => e = .returned (boundV a b) ∧ Below w.heap.size w w' := by
  have HA := Lib.hid (fun W => rright_any a W ha)
  have HB := Lib.hid (fun W => rright_any b W hb)
  unfold boundV
  cases hra : rightB a.data.toList with
  | false =>
    rw [hra] at HA
    rw [show rt a = false from hra]
    simp only [Bool.false_and, Bool.false_eq_true, if_false]
    unfold errTerm
    clear hra
    go_enter Tryd.func21, Tryd.ntmps21
    go_wp2_with (go_at_call 35; (with_reducible refine Calls.mono (HA.out _) ?_); rintro e w1 ⟨rfl, hb⟩; have B1 : Hid (Below w.heap.size w w1) := hb; clear hb)
    go_ret2
    exact ⟨rfl, B1.out⟩
  | true =>
    rw [hra] at HA
    rw [show rt a = true from hra]
    have sza := right_size (v := a) hra
    obtain ⟨ca, la, ea, _⟩ := right_cons hra
    obtain ⟨pa, hca⟩ := byte_at a 0 ca la ea
    have pai : (0 : Int) < (a.size : Int) := by omega
    obtain ⟨za, hza⟩ : ∃ z : Int, (ca.toNat : Int) = z := ⟨_, rfl⟩
    have PA := Lib.hid (fun W => rpublic_rt a ca la ea za hza W)
    cases hrb : rightB b.data.toList with
    | false =>
      rw [hrb] at HB
      have he : (if (true && pubK a) = true then buildV ⟨#[76]⟩ [a, b] else errTerm) = errTerm := by
        split
        · exact buildV_wrong ⟨b, by simp, hrb⟩
        · rfl
      rw [he]
      unfold errTerm
      clear hra hrb PA ea he
      go_enter Tryd.func21, Tryd.ntmps21
      go_wp2_with (first
        | (have hq := B1; (go_at_call 35; (with_reducible refine Calls.mono (HB.out _) ?_); rintro e w2 ⟨rfl, hb⟩; have B2 : Hid (Below w.heap.size w w2) := B1.out.trans (hb.mono B1.out.size); clear hb hq))
        | (go_at_call 35; (with_reducible refine Calls.mono (HA.out _) ?_); rintro e w1 ⟨rfl, hb⟩; have B1 : Hid (Below w.heap.size w w1) := hb; clear hb))
      go_ret2
      exact ⟨rfl, B2.out⟩
    | true =>
      rw [hrb] at HB
      cases hpa : pubK a with
      | false =>
        rw [hpa] at PA
        simp only [Bool.and_false, Bool.false_eq_true, if_false]
        unfold errTerm
        clear hra hrb hpa ea
        go_enter Tryd.func21, Tryd.ntmps21
        go_wp2_with (first
          | (have hq := B1; (go_at_call 35; (with_reducible refine Calls.mono (HB.out _) ?_); rintro e w2 ⟨rfl, hb⟩; have B2 : Hid (Below w.heap.size w w2) := B1.out.trans (hb.mono B1.out.size); clear hb hq))
          | (go_at_call 35; (with_reducible refine Calls.mono (HA.out _) ?_); rintro e w1 ⟨rfl, hb⟩; have B1 : Hid (Below w.heap.size w w1) := hb; clear hb)
          | (go_at_call 38; (with_reducible refine Calls.mono (PA.out _) ?_); rintro e w' ⟨rfl, rfl⟩; have TK : True := trivial))
        go_ret2
        exact ⟨rfl, B2.out⟩
      | true =>
        rw [hpa] at PA
        simp only [Bool.and_true, if_true]
        have HC : Hid (∀ W, Calls Tryd.prog 18 #[.int .u8 76, .string a, .string b] W fun e w' => e = .returned (buildV ⟨#[76]⟩ [a, b]) ∧ Below W.heap.size W w') := fun W => rtwo_any 76 a b W ha hb
        obtain ⟨s, n, hs⟩ := buildV_tuple ⟨#[76]⟩ [a, b]
        rw [hs] at HC ⊢
        clear hra hrb hpa hs ea
        go_enter Tryd.func21, Tryd.ntmps21
        go_wp2_with (first
          | (have hq := B1; (go_at_call 35; (with_reducible refine Calls.mono (HB.out _) ?_); rintro e w2 ⟨rfl, hb⟩; have B2 : Hid (Below w.heap.size w w2) := B1.out.trans (hb.mono B1.out.size); clear hb hq))
          | (go_at_call 35; (with_reducible refine Calls.mono (HA.out _) ?_); rintro e w1 ⟨rfl, hb⟩; have B1 : Hid (Below w.heap.size w w1) := hb; clear hb)
          | (go_at_call 38; (with_reducible refine Calls.mono (PA.out _) ?_); rintro e w' ⟨rfl, rfl⟩; have TK : True := trivial)
          | (go_at_call 18; (with_reducible refine Calls.mono (HC.out _) ?_); rintro e w3 ⟨rfl, hb⟩; have B3 : Hid (Below w.heap.size w w3) := B2.out.trans (hb.mono B2.out.size); clear hb))
        go_ret2
        exact ⟨rfl, B3.out⟩
set_option maxRecDepth 100000 in
set_option maxHeartbeats 4000000 in
theorem ragree_bad (p t : ByteArray) (w : World) (hm : t.size ≤ maxLen) (hpm : p.size ≤ maxLen) (h : readP t.data.toList = none ∨ rt p = false) : Calls Tryd.prog 22 #[.string p, .string t] w fun e w' => e = .returned errTerm ∧ Below w.heap.size w w' := by
  have HO := Lib.hid (ropen_any t w hm)
  have HA := Lib.hid (fun W => rright_any p W hpm)
  unfold errTerm
  cases hrp : rightB p.data.toList with
  | true =>
    rw [hrp] at HA
    have hx : readP t.data.toList = none := h.resolve_right (by unfold rt; rw [hrp]; decide)
    rw [hx] at HO
    clear h hx hrp
    go_enter Tryd.func22, Tryd.ntmps22
    go_upto_region 2 with (go_at_call 39; (with_reducible refine Calls.mono HO.out ?_); rintro e w1 ⟨hb, hno, _⟩; obtain rfl := hno rfl; have B1 := Lib.hid hb; clear hb hno)
    have B2 : Hid (Below w.heap.size w (w1.alloc (.cells #[.int .u8 0, .int .i64 0, .string ⟨#[]⟩, .slice none 0 0] 36))) := B1.out.alloc B1.out.size _
    have CX : Hid ((w1.alloc (.cells #[.int .u8 0, .int .i64 0, .string ⟨#[]⟩, .slice none 0 0] 36)).heap[w1.heap.size]? = some (.cells #[.int .u8 0, .int .i64 0, .string ⟨#[]⟩, .slice none 0 0] 36 (0, 0))) := heap_alloc_at w1 _
    generalize w1.alloc (.cells #[.int .u8 0, .int .i64 0, .string ⟨#[]⟩, .slice none 0 0] 36) = w2 at B2 CX ⊢
    obtain ⟨xb, hxb⟩ : ∃ xb, w1.heap.size = xb := ⟨_, rfl⟩
    rw [hxb] at CX ⊢
    clear hxb
    have x_0 : w2.cell? ⟨xb, 0, none⟩ = some (.int .u8 0) := by simp [World.cell?, CX.out]
    go_wp2_with (go_at_call 35; (with_reducible refine Calls.mono (HA.out _) ?_); rintro e w3 ⟨rfl, hb⟩; have B3 : Hid (Below w.heap.size w w3) := B2.out.trans (hb.mono B2.out.size); have y0 := cell_later hb x_0; clear hb)
    go_ret2
    exact ⟨rfl, B3.out⟩
  | false =>
    rw [hrp] at HA
    clear h hrp
    cases hx : readP t.data.toList with
    | none =>
      rw [hx] at HO
      clear hx
      go_enter Tryd.func22, Tryd.ntmps22
      go_upto_region 2 with (go_at_call 39; (with_reducible refine Calls.mono HO.out ?_); rintro e w1 ⟨hb, hno, _⟩; obtain rfl := hno rfl; have B1 := Lib.hid hb; clear hb hno)
      have B2 : Hid (Below w.heap.size w (w1.alloc (.cells #[.int .u8 0, .int .i64 0, .string ⟨#[]⟩, .slice none 0 0] 36))) := B1.out.alloc B1.out.size _
      have CX : Hid ((w1.alloc (.cells #[.int .u8 0, .int .i64 0, .string ⟨#[]⟩, .slice none 0 0] 36)).heap[w1.heap.size]? = some (.cells #[.int .u8 0, .int .i64 0, .string ⟨#[]⟩, .slice none 0 0] 36 (0, 0))) := heap_alloc_at w1 _
      generalize w1.alloc (.cells #[.int .u8 0, .int .i64 0, .string ⟨#[]⟩, .slice none 0 0] 36) = w2 at B2 CX ⊢
      obtain ⟨xb, hxb⟩ : ∃ xb, w1.heap.size = xb := ⟨_, rfl⟩
      rw [hxb] at CX ⊢
      clear hxb
      have x_0 : w2.cell? ⟨xb, 0, none⟩ = some (.int .u8 0) := by simp [World.cell?, CX.out]
      go_wp2_with (go_at_call 35; (with_reducible refine Calls.mono (HA.out _) ?_); rintro e w3 ⟨rfl, hb⟩; have B3 : Hid (Below w.heap.size w w3) := B2.out.trans (hb.mono B2.out.size); have y0 := cell_later hb x_0; clear hb)
      go_ret2
      exact ⟨rfl, B3.out⟩
    | some x =>
      rw [hx] at HO
      obtain ⟨oz, hoz⟩ : ∃ oz : Int, (x.op.toNat : Int) = oz := ⟨_, rfl⟩
      clear hx
      go_enter Tryd.func22, Tryd.ntmps22
      go_upto_region 2 with (go_at_call 39; (with_reducible refine Calls.mono HO.out ?_); rintro e w1 ⟨hb, _, hyes⟩; obtain ⟨u, ko, km, kc, rfl, _, hK⟩ := hyes x rfl; have B1 := Lib.hid hb; clear hb hyes hK)
      have B2 : Hid (Below w.heap.size w (w1.alloc (.cells #[.int .u8 oz, .int .i64 x.n, .string u, .slice ko km kc] 36))) := B1.out.alloc B1.out.size _
      have CX : Hid ((w1.alloc (.cells #[.int .u8 oz, .int .i64 x.n, .string u, .slice ko km kc] 36)).heap[w1.heap.size]? = some (.cells #[.int .u8 oz, .int .i64 x.n, .string u, .slice ko km kc] 36 (0, 0))) := heap_alloc_at w1 _
      generalize w1.alloc (.cells #[.int .u8 oz, .int .i64 x.n, .string u, .slice ko km kc] 36) = w2 at B2 CX ⊢
      obtain ⟨xb, hxb⟩ : ∃ xb, w1.heap.size = xb := ⟨_, rfl⟩
      rw [hxb] at CX ⊢
      clear hxb
      have x_0 : w2.cell? ⟨xb, 0, none⟩ = some (.int .u8 oz) := by simp [World.cell?, CX.out]
      go_wp2_with (go_at_call 35; (with_reducible refine Calls.mono (HA.out _) ?_); rintro e w3 ⟨rfl, hb⟩; have B3 : Hid (Below w.heap.size w w3) := B2.out.trans (hb.mono B2.out.size); have y0 := cell_later hb x_0; clear hb)
      go_ret2
      exact ⟨rfl, B3.out⟩
set_option maxRecDepth 100000 in
set_option maxHeartbeats 4000000 in
theorem ragree_other (p t : ByteArray) (w : World) (x : Sh) (hm : t.size ≤ maxLen) (hpm : p.size ≤ maxLen) (hrp : rt p = true) (hx : readP t.data.toList = some x) (h : x.op ≠ 80) : Calls Tryd.prog 22 #[.string p, .string t] w fun e w' => e = .returned errTerm ∧ Below w.heap.size w w' := by
  have HO := Lib.hid (ropen_any t w hm)
  have HA := Lib.hid (fun W => rright_any p W hpm)
  rw [show rightB p.data.toList = true from hrp] at HA
  unfold errTerm
  rw [hx] at HO
  obtain ⟨oz, hoz⟩ : ∃ oz : Int, (x.op.toNat : Int) = oz := ⟨_, rfl⟩
  have ne : ∀ k : UInt8, x.op ≠ k → (x.op.toNat : Int) ≠ (k.toNat : Int) := fun k h h' => h (UInt8.toNat_inj.mp (by omega))
  have b1 : (oz != 80) = true := by rw [bne_iff_ne, ← hoz]; exact ne 80 h
  clear ne h hx hrp
  go_enter Tryd.func22, Tryd.ntmps22
  go_upto_region 2 with (go_at_call 39; (with_reducible refine Calls.mono HO.out ?_); rintro e w1 ⟨hb, _, hyes⟩; obtain ⟨u, ko, km, kc, rfl, _, hK⟩ := hyes x rfl; have B1 := Lib.hid hb; clear hb hyes hK)
  have B2 : Hid (Below w.heap.size w (w1.alloc (.cells #[.int .u8 oz, .int .i64 x.n, .string u, .slice ko km kc] 36))) := B1.out.alloc B1.out.size _
  have CX : Hid ((w1.alloc (.cells #[.int .u8 oz, .int .i64 x.n, .string u, .slice ko km kc] 36)).heap[w1.heap.size]? = some (.cells #[.int .u8 oz, .int .i64 x.n, .string u, .slice ko km kc] 36 (0, 0))) := heap_alloc_at w1 _
  generalize w1.alloc (.cells #[.int .u8 oz, .int .i64 x.n, .string u, .slice ko km kc] 36) = w2 at B2 CX ⊢
  obtain ⟨xb, hxb⟩ : ∃ xb, w1.heap.size = xb := ⟨_, rfl⟩
  rw [hxb] at CX ⊢
  clear hxb
  have x_0 : w2.cell? ⟨xb, 0, none⟩ = some (.int .u8 oz) := by simp [World.cell?, CX.out]
  go_wp2_with (go_at_call 35; (with_reducible refine Calls.mono (HA.out _) ?_); rintro e w3 ⟨rfl, hb⟩; have B3 : Hid (Below w.heap.size w w3) := B2.out.trans (hb.mono B2.out.size); have y0 := cell_later hb x_0; clear hb)
  go_ret2
  exact ⟨rfl, B3.out⟩
set_option maxRecDepth 100000 in
set_option maxHeartbeats 4000000 in
theorem ragree_80 (p t : ByteArray) (w : World) (x : Sh) (hm : t.size ≤ maxLen) (hpm : p.size ≤ maxLen) (hrp : rt p = true) (hx : readP t.data.toList = some x) (h : x.op = 80) : Calls Tryd.prog 22 #[.string p, .string t] w fun e w' => e = .returned (agreeW p ⟨(nth x.kids 0).toArray⟩) ∧ Below w.heap.size w w' := by
  have HO := Lib.hid (ropen_any t w hm)
  have HA := Lib.hid (fun W => rright_any p W hpm)
  rw [show rightB p.data.toList = true from hrp] at HA
  rw [hx] at HO
  have hz : (x.op.toNat : Int) = 80 := by rw [h]; rfl
  have h2 := read_arity hx 1 (by rw [h]; rfl)
  have HX := Lib.hid hx
  clear hx h hrp
  go_enter Tryd.func22, Tryd.ntmps22
  go_upto_region 2 with (go_at_call 39; (with_reducible refine Calls.mono HO.out ?_); rintro e w1 ⟨hb, _, hyes⟩; obtain ⟨u, ko, km, kc, rfl, _, hK⟩ := hyes x rfl; have B1 := Lib.hid hb; have K1 := Lib.hid hK; clear hb hyes hK)
  obtain ⟨k0, g, cap', e0, ev, c0⟩ := one_kid K1.out h2
  cases ev
  have B2 : Hid (Below w.heap.size w (w1.alloc (.cells #[.int .u8 80, .int .i64 x.n, .string u, .slice (some ⟨g, 0, none⟩) 1 kc] 36))) := B1.out.alloc B1.out.size _
  have CX : Hid ((w1.alloc (.cells #[.int .u8 80, .int .i64 x.n, .string u, .slice (some ⟨g, 0, none⟩) 1 kc] 36)).heap[w1.heap.size]? = some (.cells #[.int .u8 80, .int .i64 x.n, .string u, .slice (some ⟨g, 0, none⟩) 1 kc] 36 (0, 0))) := heap_alloc_at w1 _
  have d0 := cell_later (below_new' w1 (.cells #[.int .u8 80, .int .i64 x.n, .string u, .slice (some ⟨g, 0, none⟩) 1 kc] 36)) c0
  generalize w1.alloc (.cells #[.int .u8 80, .int .i64 x.n, .string u, .slice (some ⟨g, 0, none⟩) 1 kc] 36) = w2 at B2 CX d0 ⊢
  obtain ⟨xb, hxb⟩ : ∃ xb, w1.heap.size = xb := ⟨_, rfl⟩
  rw [hxb] at CX ⊢
  have hkk := read_kids HX.out _ (nth_mem (i := 0) (by omega))
  rw [← e0, list_size] at hkk
  have hk0 : k0.size ≤ maxLen := Nat.le_trans (right_size hkk.1) (by unfold maxLen; omega)
  have HE : Hid (agreeW p ⟨(nth x.kids 0).toArray⟩ = agreeW p k0) := by
    show _ = _
    rw [← e0]
  have HB : Hid (∀ a b : ByteArray, a.size ≤ maxLen → b.size ≤ maxLen → ∀ W, Calls Tryd.prog 18 #[.int .u8 88, .string a, .string b] W fun e w' => e = .returned (buildV ⟨#[88]⟩ [a, b]) ∧ Below W.heap.size W w') := fun a b ha hb W => rtwo_any 88 a b W ha hb
  clear hxb c0 K1 e0 hkk
  have x_0 : w2.cell? ⟨xb, 0, none⟩ = some (.int .u8 80) := by simp [World.cell?, CX.out]
  have x_3 : w2.cell? ⟨xb, 3, none⟩ = some (.slice (some ⟨g, 0, none⟩) 1 kc) := by simp [World.cell?, CX.out]
  cases q : Op.bytesLess k0.toList p.toList with
  | true =>
    have HC := Lib.hid (HB.out k0 p hk0 hpm)
    obtain ⟨s, n, hs⟩ := buildV_tuple ⟨#[88]⟩ [k0, p]
    have HV : Hid (agreeW p ⟨(nth x.kids 0).toArray⟩ = .tuple #[.string s, .int .i64 n]) := by show _ = _; rw [HE.out]; unfold agreeW; rw [if_pos q, hs]
    rw [hs] at HC
    have q2 : (Op.bytesLess p.toList k0.toList || p.toList == k0.toList) = false := by
      cases h1 : Op.bytesLess p.toList k0.toList with
      | true => exact (bytesLess_asymm _ _ q h1).elim
      | false =>
        rw [Bool.false_or]
        apply toList_ne
        intro e; rw [e] at q; exact bytesLess_asymm _ _ q q
    clear HB hs
    go_wp2_with (go_at_call 35; (with_reducible refine Calls.mono (HA.out _) ?_); rintro e w3 ⟨rfl, hb⟩; have B3 : Hid (Below w.heap.size w w3) := B2.out.trans (hb.mono B2.out.size); have y_0 := cell_later hb x_0; have y_3 := cell_later hb x_3; have y_k := cell_later hb d0; clear hb)
    go_quiet (fail)
    have B4 : Hid (Below w.heap.size w (w3.drewN nq)) := below_drewN B3.out nq
    go_wp2_with (go_at_call 18; (with_reducible refine Calls.mono (HC.out _) ?_); rintro e w5 ⟨rfl, hb⟩; have B5 : Hid (Below w.heap.size w w5) := B4.out.trans (hb.mono B4.out.size); clear hb)
    go_ret2
    exact ⟨by rw [HV.out]; rfl, B5.out⟩
  | false =>
    have HC := Lib.hid (HB.out p k0 hpm hk0)
    obtain ⟨s, n, hs⟩ := buildV_tuple ⟨#[88]⟩ [p, k0]
    have HV : Hid (agreeW p ⟨(nth x.kids 0).toArray⟩ = .tuple #[.string s, .int .i64 n]) := by show _ = _; rw [HE.out]; unfold agreeW; rw [if_neg (by rw [q]; decide), hs]
    rw [hs] at HC
    have q2 : (Op.bytesLess p.toList k0.toList || p.toList == k0.toList) = true := by
      cases h1 : Op.bytesLess p.toList k0.toList with
      | true => rfl
      | false => rw [bytesLess_tri _ _ h1 q]; simp
    clear HB hs
    go_wp2_with (go_at_call 35; (with_reducible refine Calls.mono (HA.out _) ?_); rintro e w3 ⟨rfl, hb⟩; have B3 : Hid (Below w.heap.size w w3) := B2.out.trans (hb.mono B2.out.size); have y_0 := cell_later hb x_0; have y_3 := cell_later hb x_3; have y_k := cell_later hb d0; clear hb)
    go_quiet (fail)
    have B4 : Hid (Below w.heap.size w (w3.drewN nq)) := below_drewN B3.out nq
    go_wp2_with (go_at_call 18; (with_reducible refine Calls.mono (HC.out _) ?_); rintro e w5 ⟨rfl, hb⟩; have B5 : Hid (Below w.heap.size w w5) := B4.out.trans (hb.mono B4.out.size); clear hb)
    go_ret2
    exact ⟨by rw [HV.out]; rfl, B5.out⟩
theorem ragree_any (p t : ByteArray) (w : World) (hm : t.size ≤ maxLen) (hpm : p.size ≤ maxLen) : Calls Tryd.prog 22 #[.string p, .string t] w fun e w' => e = .returned (agreeV p t) ∧ Below w.heap.size w w' := by
  unfold agreeV
  cases hx : readP t.data.toList with
  | none => exact ragree_bad p t w hm hpm (.inl hx)
  | some x =>
    cases hrp : rt p with
    | false =>
      have e : (if x.op = 80 then agreeW p ⟨(nth x.kids 0).toArray⟩ else errTerm) = errTerm := by
        split
        · unfold agreeW
          split
          · exact buildV_wrong ⟨p, by simp, hrp⟩
          · exact buildV_wrong ⟨p, by simp, hrp⟩
        · rfl
      simp only [e]
      exact ragree_bad p t w hm hpm (.inr hrp)
    | true =>
      by_cases h : x.op = 80
      · simp only [h, if_true]
        exact ragree_80 p t w x hm hpm hrp hx h
      · simp only [h, if_false]
        exact ragree_other p t w x hm hpm hrp hx h
end Go.Proofs.YtlheoipengndnabDoor
/- term: TermBuilds. -/
namespace Go.Proofs.YtlheoipengndnabDoor
set_option linter.unusedVariables false
open Go.RowKit
theorem five_strs {w : World} {g : Nat} {t : TypeId} {s0 s1 s2 s3 s4 : ByteArray} (h : w.heap[g]? = some (.cells #[.string s0, .string s1, .string s2, .string s3, .string s4] t (0, 0))) :
    ∀ i, i < 5 → w.cell? ⟨g, i, none⟩ = some (.string ([s0, s1, s2, s3, s4].getD i ⟨#[]⟩)) := by
  intro i hi
  rw [cell_of_row _ _ _ _ _ _ h]
  match i, hi with
  | 0, _ => rfl
  | 1, _ => rfl
  | 2, _ => rfl
  | 3, _ => rfl
  | 4, _ => rfl
theorem five_ints {w : World} {g : Nat} {t : TypeId} {k : IntKind} {s0 s1 s2 s3 s4 : Int} (h : w.heap[g]? = some (.cells #[.int k s0, .int k s1, .int k s2, .int k s3, .int k s4] t (0, 0))) :
    ∀ i, i < 5 → w.cell? ⟨g, i, none⟩ = some (.int k ([s0, s1, s2, s3, s4].getD i 0)) := by
  intro i hi
  rw [cell_of_row _ _ _ _ _ _ h]
  match i, hi with
  | 0, _ => rfl
  | 1, _ => rfl
  | 2, _ => rfl
  | 3, _ => rfl
  | 4, _ => rfl
set_option maxRecDepth 100000 in
set_option maxHeartbeats 4000000 in
theorem builds_long (a b : ByteArray) (w : World) (ha : a.size ≤ maxLen) (hb : b.size ≤ maxLen) (h : 20000 < a.size ∨ 20000 < b.size) : Calls Tryd.prog 4 #[.string a, .string b] w fun e w' => e = .returned (.bool true) ∧ Below w.heap.size w w' := by
  unfold maxLen at ha hb
  by_cases h1 : (20000 : Int) < (a.size : Int)
  · clear h
    go_enter Tryd.func4, Tryd.ntmps4
    go_wp2
    go_ret
    exact ⟨rfl, Below.refl _ _⟩
  · have h2 : (20000 : Int) < (b.size : Int) := by omega
    clear h
    go_enter Tryd.func4, Tryd.ntmps4
    go_wp2
    go_ret
    exact ⟨rfl, Below.refl _ _⟩
set_option maxRecDepth 100000 in
set_option maxHeartbeats 8000000 in
theorem builds_short (a b : ByteArray) (w : World) (ha : a.size ≤ 20000) (hb : b.size ≤ 20000) (hL : LibOk w) (hT : Tab w) : Calls Tryd.prog 4 #[.string a, .string b] w fun e w' => e = .returned (.bool true) ∧ Below w.heap.size w w' := by
  have hi1 : ¬ (20000 : Int) < (a.size : Int) := by omega
  have hi2 : ¬ (20000 : Int) < (b.size : Int) := by omega
  have ham : a.size ≤ maxLen := by unfold maxLen; omega
  have hbm : b.size ≤ maxLen := by unfold maxLen; omega
  have C1 := Lib.hid (fun W (h : LibOk W) => hash_any a W ham h)
  have C2 := Lib.hid (fun W (h : LibOk W) => child_any a b W ham hbm h)
  have C3 := Lib.hid (fun W (h : LibOk W) => join_any a b W ham hbm h)
  have C4 := Lib.hid (fun W (h : LibOk W) => bind_any a b W ham hbm h)
  have C5 := Lib.hid (fun W (h : LibOk W) => sign_any a b W ham hbm h)
  have C6 := Lib.hid (fun W (h : LibOk W) => box_any a b W ham hbm h)
  have C7 := Lib.hid (fun W (h : LibOk W) => pub_any a W ham h)
  have C8 := Lib.hid (fun W (h : LibOk W) => joint_any a b W ham hbm h)
  have C9 := Lib.hid (fun W (h : LibOk W) => bound_any a b W ham hbm h)
  have C10 := Lib.hid (fun W (h : LibOk W) => agree_any a b W hbm ham h)
  have D1 : Hid (∀ W, Calls Tryd.prog 17 #[.int .u8 72, .string a] W fun e w' => e = .returned (buildV ⟨#[72]⟩ [a]) ∧ Below W.heap.size W w') := fun W => rone_any 72 a W ham
  have D7 := Lib.hid (fun W => rpub_any a W ham)
  have D8 := Lib.hid (fun W => rjoint_any a b W ham hbm)
  have D9 := Lib.hid (fun W => rbound_any a b W ham hbm)
  have D10 := Lib.hid (fun W => ragree_any a b W hbm ham)
  obtain ⟨s1, z1, q1⟩ := buildV_tuple ⟨#[72]⟩ [a]
  obtain ⟨s2, z2, q2⟩ := buildV_tuple ⟨#[68]⟩ [a, b]
  obtain ⟨s3, z3, q3⟩ := buildV_tuple ⟨#[86]⟩ [a, b]
  obtain ⟨s4, z4, q4⟩ := buildV_tuple ⟨#[75]⟩ [a, b]
  obtain ⟨s5, z5, q5⟩ := buildV_tuple ⟨#[83]⟩ [a, b]
  obtain ⟨s6, z6, q6⟩ := buildV_tuple ⟨#[66]⟩ [a, b]
  obtain ⟨s7, z7, q7⟩ := pubV_form a
  obtain ⟨s8, z8, q8⟩ := jointV_form a b
  obtain ⟨s9, z9, q9⟩ := boundV_form a b
  obtain ⟨s10, z10, q10⟩ := agreeV_form a b
  rw [q1] at C1 D1
  rw [q2] at C2; rw [q3] at C3; rw [q4] at C4; rw [q5] at C5; rw [q6] at C6
  rw [q7] at C7 D7; rw [q8] at C8 D8; rw [q9] at C9 D9; rw [q10] at C10 D10
  have HP : Hid (∀ i, i < 5 → ∀ W, Calls Tryd.prog 18 #[.int .u8 ([68, 86, 75, 83, 66].getD i 0), .string a, .string b] W fun e w' => e = .returned (.tuple #[.string ([s2, s3, s4, s5, s6].getD i ⟨#[]⟩), .int .i64 ([z2, z3, z4, z5, z6].getD i 0)]) ∧ Below W.heap.size W w') := by
    intro i hi W
    match i, hi with
    | 0, _ => rw [show [s2, s3, s4, s5, s6].getD 0 ⟨#[]⟩ = s2 from rfl, show [z2, z3, z4, z5, z6].getD 0 0 = z2 from rfl, ← q2]; exact rtwo_any 68 a b W ham hbm
    | 1, _ => rw [show [s2, s3, s4, s5, s6].getD 1 ⟨#[]⟩ = s3 from rfl, show [z2, z3, z4, z5, z6].getD 1 0 = z3 from rfl, ← q3]; exact rtwo_any 86 a b W ham hbm
    | 2, _ => rw [show [s2, s3, s4, s5, s6].getD 2 ⟨#[]⟩ = s4 from rfl, show [z2, z3, z4, z5, z6].getD 2 0 = z4 from rfl, ← q4]; exact rtwo_any 75 a b W ham hbm
    | 3, _ => rw [show [s2, s3, s4, s5, s6].getD 3 ⟨#[]⟩ = s5 from rfl, show [z2, z3, z4, z5, z6].getD 3 0 = z5 from rfl, ← q5]; exact rtwo_any 83 a b W ham hbm
    | 4, _ => rw [show [s2, s3, s4, s5, s6].getD 4 ⟨#[]⟩ = s6 from rfl, show [z2, z3, z4, z5, z6].getD 4 0 = z6 from rfl, ← q6]; exact rtwo_any 66 a b W ham hbm
  have HW := Lib.hid (fun W (h : LibOk W) (k : Tab W) => works_any W h k)
  have HL := Lib.hid hL
  have HT := Lib.hid hT
  clear hL hT q1 q2 q3 q4 q5 q6 q7 q8 q9 q10 ham hbm
  go_enter Tryd.func4, Tryd.ntmps4
  go_upto_region 16 with (first
    | (go_at_call 12; (with_reducible refine Calls.mono (C1.out _ HL.out) ?_); rintro e w1 ⟨rfl, hb⟩; have B1 : Hid (Below w.heap.size w w1) := hb; have L1 := Lib.hid (HL.out.below B1.out); clear hb)
    | (go_at_call 13; (with_reducible refine Calls.mono (C2.out _ L1.out) ?_); rintro e w2 ⟨rfl, hb⟩; have B2 : Hid (Below w.heap.size w w2) := B1.out.trans (hb.mono B1.out.size); have L2 := Lib.hid (HL.out.below B2.out); clear hb)
    | (go_at_call 8; (with_reducible refine Calls.mono (C3.out _ L2.out) ?_); rintro e w3 ⟨rfl, hb⟩; have B3 : Hid (Below w.heap.size w w3) := B2.out.trans (hb.mono B2.out.size); have L3 := Lib.hid (HL.out.below B3.out); clear hb)
    | (go_at_call 9; (with_reducible refine Calls.mono (C4.out _ L3.out) ?_); rintro e w4 ⟨rfl, hb⟩; have B4 : Hid (Below w.heap.size w w4) := B3.out.trans (hb.mono B3.out.size); have L4 := Lib.hid (HL.out.below B4.out); clear hb)
    | (go_at_call 14; (with_reducible refine Calls.mono (C5.out _ L4.out) ?_); rintro e w5 ⟨rfl, hb⟩; have B5 : Hid (Below w.heap.size w w5) := B4.out.trans (hb.mono B4.out.size); have L5 := Lib.hid (HL.out.below B5.out); clear hb)
    | (go_at_call 15; (with_reducible refine Calls.mono (C6.out _ L5.out) ?_); rintro e w6 ⟨rfl, hb⟩; have B6 : Hid (Below w.heap.size w w6) := B5.out.trans (hb.mono B5.out.size); have L6 := Lib.hid (HL.out.below B6.out); clear hb)
    | (go_at_call 6; (with_reducible refine Calls.mono (C7.out _ L6.out) ?_); rintro e w7 ⟨rfl, hb⟩; have B7 : Hid (Below w.heap.size w w7) := B6.out.trans (hb.mono B6.out.size); have L7 := Lib.hid (HL.out.below B7.out); clear hb)
    | (go_at_call 10; (with_reducible refine Calls.mono (C8.out _ L7.out) ?_); rintro e w8 ⟨rfl, hb⟩; have B8 : Hid (Below w.heap.size w w8) := B7.out.trans (hb.mono B7.out.size); have L8 := Lib.hid (HL.out.below B8.out); clear hb)
    | (go_at_call 11; (with_reducible refine Calls.mono (C9.out _ L8.out) ?_); rintro e w9 ⟨rfl, hb⟩; have B9 : Hid (Below w.heap.size w w9) := B8.out.trans (hb.mono B8.out.size); have L9 := Lib.hid (HL.out.below B9.out); clear hb)
    | (go_at_call 16; (with_reducible refine Calls.mono (C10.out _ L9.out) ?_); rintro e w10 ⟨rfl, hb⟩; have B10 : Hid (Below w.heap.size w w10) := B9.out.trans (hb.mono B9.out.size); have L10 := Lib.hid (HL.out.below B10.out); clear hb)
    | (go_at_call 17; (with_reducible refine Calls.mono (D1.out _) ?_); rintro e w11 ⟨rfl, hb⟩; have B11 : Hid (Below w.heap.size w w11) := B10.out.trans (hb.mono B10.out.size); have L11 := Lib.hid (HL.out.below B11.out); clear hb))
  go_wp2_with fail
  have B12 : Hid (Below w.heap.size w (((w11.alloc (.cells #[.int .u8 68, .int .u8 86, .int .u8 75, .int .u8 83, .int .u8 66] 5)).alloc (.cells #[.string s2, .string s3, .string s4, .string s5, .string s6] 22)).alloc (.cells #[.int .i64 z2, .int .i64 z3, .int .i64 z4, .int .i64 z5, .int .i64 z6] 24))) := ((B11.out.alloc B11.out.size _).alloc (by have := B11.out.size; simp; omega) _).alloc (by have := B11.out.size; simp; omega) _
  have CO : Hid ((((w11.alloc (.cells #[.int .u8 68, .int .u8 86, .int .u8 75, .int .u8 83, .int .u8 66] 5)).alloc (.cells #[.string s2, .string s3, .string s4, .string s5, .string s6] 22)).alloc (.cells #[.int .i64 z2, .int .i64 z3, .int .i64 z4, .int .i64 z5, .int .i64 z6] 24)).heap[w11.heap.size]? = some (.cells #[.int .u8 68, .int .u8 86, .int .u8 75, .int .u8 83, .int .u8 66] 5 (0, 0))) := (Below.heap_alloc _ _ _ (by simp; omega)).trans ((Below.heap_alloc _ _ _ (by simp)).trans (heap_alloc_at w11 _))
  have CM : Hid ((((w11.alloc (.cells #[.int .u8 68, .int .u8 86, .int .u8 75, .int .u8 83, .int .u8 66] 5)).alloc (.cells #[.string s2, .string s3, .string s4, .string s5, .string s6] 22)).alloc (.cells #[.int .i64 z2, .int .i64 z3, .int .i64 z4, .int .i64 z5, .int .i64 z6] 24)).heap[w11.heap.size + 1]? = some (.cells #[.string s2, .string s3, .string s4, .string s5, .string s6] 22 (0, 0))) := by
    have := heap_alloc_at (w11.alloc (.cells #[.int .u8 68, .int .u8 86, .int .u8 75, .int .u8 83, .int .u8 66] 5)) (.cells #[.string s2, .string s3, .string s4, .string s5, .string s6] 22)
    rw [World.size_alloc] at this
    exact (Below.heap_alloc _ _ _ (by simp)).trans this
  have CE : Hid ((((w11.alloc (.cells #[.int .u8 68, .int .u8 86, .int .u8 75, .int .u8 83, .int .u8 66] 5)).alloc (.cells #[.string s2, .string s3, .string s4, .string s5, .string s6] 22)).alloc (.cells #[.int .i64 z2, .int .i64 z3, .int .i64 z4, .int .i64 z5, .int .i64 z6] 24)).heap[w11.heap.size + 2]? = some (.cells #[.int .i64 z2, .int .i64 z3, .int .i64 z4, .int .i64 z5, .int .i64 z6] 24 (0, 0))) := by
    have := heap_alloc_at ((w11.alloc (.cells #[.int .u8 68, .int .u8 86, .int .u8 75, .int .u8 83, .int .u8 66] 5)).alloc (.cells #[.string s2, .string s3, .string s4, .string s5, .string s6] 22)) (.cells #[.int .i64 z2, .int .i64 z3, .int .i64 z4, .int .i64 z5, .int .i64 z6] 24)
    rw [World.size_alloc, World.size_alloc] at this
    exact this
  generalize ((w11.alloc (.cells #[.int .u8 68, .int .u8 86, .int .u8 75, .int .u8 83, .int .u8 66] 5)).alloc (.cells #[.string s2, .string s3, .string s4, .string s5, .string s6] 22)).alloc (.cells #[.int .i64 z2, .int .i64 z3, .int .i64 z4, .int .i64 z5, .int .i64 z6] 24) = w12 at B12 CO CM CE ⊢
  obtain ⟨eb, heb⟩ : ∃ eb, w11.heap.size + 2 = eb := ⟨_, rfl⟩
  rw [heb] at CE ⊢
  clear heb
  obtain ⟨mb, hmb⟩ : ∃ mb, w11.heap.size + 1 = mb := ⟨_, rfl⟩
  rw [hmb] at CM ⊢
  clear hmb
  obtain ⟨ob, hob⟩ : ∃ ob, w11.heap.size = ob := ⟨_, rfl⟩
  rw [hob] at CO ⊢
  clear hob
  have FO := Lib.hid (five_ints CO.out)
  have FM := Lib.hid (five_strs CM.out)
  have FE := Lib.hid (five_ints CE.out)
  generalize ([68, 86, 75, 83, 66] : List Int) = os at HP FO
  generalize [s2, s3, s4, s5, s6] = vs at HP FM
  generalize [z2, z3, z4, z5, z6] = zs at HP FE
  go_loopw [30] (fun iv wr => ∃ (j : Nat), j ≤ 5 ∧ iv = .int .i64 (j : Int) ∧ Hid (Below w12.heap.size w12 wr)) (fun iv _ => 5 - (intOf iv).toNat)
  case atStart => exact ⟨0, by omega, rfl, Below.refl _ _⟩
  case round =>
    obtain ⟨j, hj, rfl, hB⟩ := hrel
    have BW : Hid (Below w.heap.size w wr) := B12.out.trans (hB.out.mono B12.out.size)
    by_cases hlt : j < 5
    · have hc0 := cell_later' hB.out (FO.out j hlt)
      have hc1 := cell_later' hB.out (FM.out j hlt)
      have hc2 := cell_later' hB.out (FE.out j hlt)
      have HPJ := Lib.hid (HP.out j hlt)
      generalize os.getD j 0 = o at hc0 HPJ
      generalize vs.getD j ⟨#[]⟩ = s at hc1 HPJ
      generalize zs.getD j 0 = z at hc2 HPJ
      have b1 : (0 : Int) ≤ (j : Int) := by omega
      have b2 : (j : Int) < 5 := by omega
      go_wp2_with (go_at_call 18; (with_reducible refine Calls.mono (HPJ.out _) ?_); rintro e w13 ⟨rfl, hb⟩; have B13 := Lib.hid hb; have g1 := cell_later' hb hc1; have g2 := cell_later' hb hc2; clear hb)
      go_roundw
      case rel => exact ⟨j + 1, by omega, by congr 1, hB.out.trans (B13.out.mono hB.out.size)⟩
      case measure => simp [intOf]; omega
    · obtain rfl : j = 5 := by omega
      go_wp2_with (first
        | (go_at_call 19; (with_reducible refine Calls.mono (D7.out _) ?_); rintro e w14 ⟨rfl, hb⟩; have B14 : Hid (Below w.heap.size w w14) := BW.out.trans (hb.mono BW.out.size); clear hb)
        | (go_at_call 20; (with_reducible refine Calls.mono (D8.out _) ?_); rintro e w15 ⟨rfl, hb⟩; have B15 : Hid (Below w.heap.size w w15) := B14.out.trans (hb.mono B14.out.size); clear hb)
        | (go_at_call 21; (with_reducible refine Calls.mono (D9.out _) ?_); rintro e w16 ⟨rfl, hb⟩; have B16 : Hid (Below w.heap.size w w16) := B15.out.trans (hb.mono B15.out.size); clear hb)
        | (go_at_call 22; (with_reducible refine Calls.mono (D10.out _) ?_); rintro e w17 ⟨rfl, hb⟩; have B17 : Hid (Below w.heap.size w w17) := B16.out.trans (hb.mono B16.out.size); have L17 := Lib.hid (HL.out.below B17.out); clear hb)
        | (go_at_call 7; (with_reducible refine Calls.mono (HW.out _ L17.out (HT.out.below B17.out)) ?_); rintro e w18 ⟨rfl, hb⟩; have B18 : Hid (Below w.heap.size w w18) := B17.out.trans (hb.mono B17.out.size); clear hb))
      go_ret
      exact ⟨rfl, B18.out⟩
theorem builds_any (a b : ByteArray) (w : World) (ha : a.size ≤ maxLen) (hb : b.size ≤ maxLen) (hL : LibOk w) (hT : Tab w) : Calls Tryd.prog 4 #[.string a, .string b] w fun e w' => e = .returned (.bool true) ∧ Below w.heap.size w w' := by
  by_cases h : 20000 < a.size ∨ 20000 < b.size
  · exact builds_long a b w ha hb h
  · exact builds_short a b w (by omega) (by omega) hL hT
end Go.Proofs.YtlheoipengndnabDoor
