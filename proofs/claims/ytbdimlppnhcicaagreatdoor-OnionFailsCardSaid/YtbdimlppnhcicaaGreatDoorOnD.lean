/- onion: what gathers terms; hops -/
import Derived.Test.YtbdimlppnhcicaaGreatDoorOnC
import Derived.Deep.CutBlock
namespace Go.Proofs.YtbdimlppnhcicaaGreatDoor
set_option linter.unusedVariables false
open Go.RowKit
/-! onion: what gathers terms; hops -/
def MAt (mb : Nat) (b : Bool) (w : World) : Prop := w.heap[mb]? = some (.cells #[.bool b] 123 (0, 0))
theorem MAt.below {mb : Nat} {b : Bool} {w w' : World} (h : MAt mb b w) (hb : Below w.heap.size w w') : MAt mb b w' := (hb.block mb (lt_of_heap h)).trans h
theorem MAt.set {mb : Nat} {b : Bool} {w : World} (h : MAt mb b w) (c : Bool) : MAt mb c (w.setCell ⟨mb, 0, none⟩ (.bool c)) := by
  unfold MAt
  rw [heap_setCell_same _ mb 0 _ 123 _ h]; rfl
theorem MAt.same {mb : Nat} {b : Bool} {w : World} (h : MAt mb b w) : Below w.heap.size w (w.setCell ⟨mb, 0, none⟩ (.bool b)) := by
  refine ⟨rfl, rfl, rfl, by simp [World.setCell], fun k hk => ?_⟩
  by_cases hm : k = mb
  · subst hm
    rw [heap_setCell_same _ k 0 _ 123 _ h]
    exact h.symm
  · exact heap_setCell_other _ _ _ _ hm
theorem MAt.cell {mb : Nat} {b : Bool} {w : World} (h : MAt mb b w) : w.cell? ⟨mb, 0, none⟩ = some (.bool b) := by rw [cell_of_row _ _ _ _ _ _ h]; rfl
set_option maxRecDepth 100000 in
set_option maxHeartbeats 2000000 in
theorem of_any (mb : Nat) (b : Bool) (t : ByteArray) (e : Int) (w : World) (h : MAt mb b w) : Calls Tryz.prog 67 #[.pointer (some ⟨mb, 0, none⟩), .string t, .int .i64 e] w fun y w' => y = .returned (.string t) ∧ w' = w.setCell ⟨mb, 0, none⟩ (.bool (b || decide (e ≠ 0))) := by
  have c0 := h.cell
  have f0 := frozen_of_row _ _ 0 _ _ h
  clear h
  cases b with
  | true =>
    go_enter Tryz.func67, Tryz.ntmps67
    go_wp2_with fail
    go_ret
    exact ⟨rfl, rfl⟩
  | false =>
    by_cases he : e = 0
    · subst he
      go_enter Tryz.func67, Tryz.ntmps67
      go_wp2_with fail
      go_ret
      exact ⟨rfl, rfl⟩
    · have e1 : (e != 0) = true := by simpa using he
      have e2 : (e == 0) = false := by simpa using he
      have HD : Hid ((false || decide (e ≠ 0)) = true) := by show _ = _; simp [he]
      obtain ⟨c, hc⟩ : ∃ c, (false || decide (e ≠ 0)) = c := ⟨_, rfl⟩
      rw [hc] at HD
      have hct : c = true := HD.out
      subst hct
      rw [hc]
      clear hc HD
      go_enter Tryz.func67, Tryz.ntmps67
      go_wp2_with fail
      go_ret
      exact ⟨rfl, rfl⟩
/-- no error: nothing turns -/
theorem of_ok (mb : Nat) (b : Bool) (t : ByteArray) (w : World) (h : MAt mb b w) : Calls Tryz.prog 67 #[.pointer (some ⟨mb, 0, none⟩), .string t, .int .i64 0] w fun y w' => y = .returned (.string t) ∧ Below w.heap.size w w' :=
  (of_any mb b t 0 w h).mono fun y w' ⟨h1, h2⟩ => ⟨h1, by rw [h2, show (b || decide ((0 : Int) ≠ 0)) = b by simp]; exact h.same⟩
/-- an error: it is bad -/
theorem of_bad (mb : Nat) (b : Bool) (t : ByteArray) (e : Int) (w : World) (he : e ≠ 0) (h : MAt mb b w) : Calls Tryz.prog 67 #[.pointer (some ⟨mb, 0, none⟩), .string t, .int .i64 e] w fun y w' => y = .returned (.string t) ∧ w' = w.setCell ⟨mb, 0, none⟩ (.bool true) :=
  (of_any mb b t e w h).mono fun y w' ⟨h1, h2⟩ => ⟨h1, by rw [h2, show (b || decide (e ≠ 0)) = true by simp [he]]⟩
set_option maxRecDepth 100000 in
set_option maxHeartbeats 2000000 in
theorem mtext_ok (mb : Nat) (b : Bool) (s : ByteArray) (w : World) (hs : s.size ≤ 4096) (h : MAt mb b w) (hT : Tab w) : Calls Tryz.prog 69 #[.pointer (some ⟨mb, 0, none⟩), .string s] w fun y w' => y = .returned (.string (textS s)) ∧ Below w.heap.size w w' := by
  have HX : Hid (Calls Tryz.prog 126 #[.string s] w fun e w' => (e = .returned (.tuple #[.string (textS s), .int .i64 0])) ∧ Below w.heap.size w w') := btext_short s w hs hT
  have H := Lib.hid h
  have HO : Hid (∀ W, MAt mb b W → Calls Tryz.prog 67 #[.pointer (some ⟨mb, 0, none⟩), .string (textS s), .int .i64 0] W fun y w' => y = .returned (.string (textS s)) ∧ Below W.heap.size W w') := fun W hW => of_ok mb b _ W hW
  clear h
  go_enter Tryz.func69, Tryz.ntmps69
  go_wp2_with (first
    | (go_at_call 126; (with_reducible refine Calls.mono HX.out ?_); rintro e w1 ⟨rfl, hb⟩; have B1 := Lib.hid hb; clear hb)
    | (go_at_call 67; (with_reducible refine Calls.mono (HO.out _ (H.out.below B1.out)) ?_); rintro e w2 ⟨rfl, hb⟩; have B2 := Lib.hid (B1.out.trans (hb.mono B1.out.size)); clear hb))
  go_ret
  exact ⟨rfl, B2.out⟩
set_option maxRecDepth 100000 in
set_option maxHeartbeats 2000000 in
theorem mtext_bad (mb : Nat) (b : Bool) (s : ByteArray) (w : World) (hm : s.size ≤ maxLen) (hs : 4096 < s.size) (h : MAt mb b w) : Calls Tryz.prog 69 #[.pointer (some ⟨mb, 0, none⟩), .string s] w fun y w' => y = .returned (.string ⟨#[]⟩) ∧ MAt mb true w' ∧ Fr (fun k => k = mb) w w' := by
  have HX : Hid (Calls Tryz.prog 126 #[.string s] w fun e w' => (e = .returned (.tuple #[.string ⟨#[]⟩, .int .i64 3])) ∧ Below w.heap.size w w') := btext_long s w hm hs
  have H := Lib.hid h
  have HO : Hid (∀ W, MAt mb b W → Calls Tryz.prog 67 #[.pointer (some ⟨mb, 0, none⟩), .string ⟨#[]⟩, .int .i64 3] W fun y w' => y = .returned (.string ⟨#[]⟩) ∧ w' = W.setCell ⟨mb, 0, none⟩ (.bool true)) := fun W hW => of_bad mb b _ 3 W (by decide) hW
  clear h
  go_enter Tryz.func69, Tryz.ntmps69
  go_wp2_with (first
    | (go_at_call 126; (with_reducible refine Calls.mono HX.out ?_); rintro e w1 ⟨rfl, hb⟩; have B1 := Lib.hid hb; clear hb)
    | (go_at_call 67; (with_reducible refine Calls.mono (HO.out _ (H.out.below B1.out)) ?_); rintro e w2 ⟨rfl, rfl⟩))
  go_ret
  exact ⟨rfl, (H.out.below B1.out).set true, (Fr.below B1.out).set mb 0 _ rfl⟩
structure Hp where
  chan : ByteArray
  node : ByteArray
  amt : Int
  exp : Int
def Hp.cells (h : Hp) : List Value := [.string h.chan, .string h.node, .int .i64 h.amt, .int .i64 h.exp]
/-- what is wrong with a hop -/
def hopE (h : Hp) (first : Bool) (d : ByteArray) : Int :=
  if 100 < h.chan.size ∨ (h.chan = ⟨#[]⟩ ∧ first = false) ∨ h.exp < 0 ∨ 2147483648 ≤ h.exp then 2
  else if h.amt < 0 ∨ 2100000000000000000 < h.amt then 40
  else if (op4 d.data.toList).b = false ∨ (op4 d.data.toList).op = 86 ∨ (op4 d.data.toList).op = 75 ∨ (op4 h.node.data.toList).op ≠ 80 then 10 else 0
theorem op4_no {l : List UInt8} (h : (op4 l).b = false) : (op4 l).op = 0 := by
  unfold op4 at h ⊢
  cases hr : readP l with
  | none => rfl
  | some x => rw [hr] at h; cases h
set_option maxRecDepth 100000 in
set_option maxHeartbeats 16000000 in
theorem wrong_any (ch nd : ByteArray) (am ex : Int) (first : Bool) (d : ByteArray) (w : World) (h1 : ch.size ≤ maxLen) (h2 : nd.size ≤ maxLen) (h3 : d.size ≤ maxLen) (hL : LibOk w) : Calls Tryz.prog 116 #[.agg #[.string ch, .string nd, .int .i64 am, .int .i64 ex], .bool first, .string d] w fun e w' => e = .returned (.int .i64 (hopE ⟨ch, nd, am, ex⟩ first d)) ∧ Below w.heap.size w w' := by
  have HN : Hid (∀ W, Below w.heap.size w W → Calls Tryz.prog 120 #[.string nd] W (OneForm (op4 nd.data.toList) W)) := fun W hW => popen_any nd W h2 (hL.below hW)
  have HD : Hid (∀ W, Below w.heap.size w W → Calls Tryz.prog 120 #[.string d] W (OneForm (op4 d.data.toList) W)) := fun W hW => popen_any d W h3 (hL.below hW)
  clear hL
  have hno := op4_no (l := d.data.toList)
  have hnn := op4_no (l := nd.data.toList)
  have HX : Hid (∀ x, (if 100 < ch.size ∨ (ch = ⟨#[]⟩ ∧ first = false) ∨ ex < 0 ∨ 2147483648 ≤ ex then 2
  else if am < 0 ∨ 2100000000000000000 < am then 40
  else if (op4 d.data.toList).b = false ∨ (op4 d.data.toList).op = 86 ∨ (op4 d.data.toList).op = 75 ∨ (op4 nd.data.toList).op ≠ 80 then 10 else 0) = x → hopE ⟨ch, nd, am, ex⟩ first d = x) := fun x h => h
  obtain ⟨v, hv⟩ : ∃ v, hopE ⟨ch, nd, am, ex⟩ first d = v := ⟨_, rfl⟩
  rw [hv] at HX ⊢
  clear hv
  obtain ⟨q, hq⟩ : ∃ q, op4 d.data.toList = q := ⟨_, rfl⟩
  obtain ⟨p, hp⟩ : ∃ p, op4 nd.data.toList = p := ⟨_, rfl⟩
  rw [hq] at HX HD hno
  rw [hp] at HX HN hnn
  clear hq hp
  obtain ⟨qo, qn, qu, qv, qb⟩ := q
  obtain ⟨po, pn, pu, pv, pb⟩ := p
  simp only at HX hno hnn
  have HNO := Lib.hid hno
  have HNN := Lib.hid hnn
  clear hno hnn
  unfold maxLen at h1
  go_enter Tryz.func116, Tryz.ntmps116
  go_upto_region 1 with fail
  have K0 := heap_alloc_at w (.cells #[.string ch, .string nd, .int .i64 am, .int .i64 ex] 49)
  have B0 := Lib.hid (below_new' w (.cells #[.string ch, .string nd, .int .i64 am, .int .i64 ex] 49))
  generalize w.alloc (.cells #[.string ch, .string nd, .int .i64 am, .int .i64 ex] 49) = w0 at K0 B0 ⊢
  obtain ⟨k3, hk3⟩ : ∃ k, w.heap.size = k := ⟨_, rfl⟩
  have HK3 := Lib.hid hk3
  rw [hk3] at K0 ⊢
  clear hk3
  have HK0 := Lib.hid K0
  obtain ⟨_, g1, _, _⟩ := four K0
  clear K0
  go_upto_region 2 with (go_at_call 120; (with_reducible refine Calls.mono (HN.out _ B0.out) ?_); rintro e w1 ⟨hb, oo, kk, rfl, hs⟩; have B1 := Lib.hid (B0.out.trans (hb.mono B0.out.size)); have K1 := Lib.hid ((hb.block _ (lt_of_heap HK0.out)).trans HK0.out); clear hb hs)
  have B2 := below_new' w1 (.cells #[.int .u8 po, .int .i64 pn, .string pu, .slice oo pv.length kk] 192)
  have K2 := Lib.hid ((B2.block _ (lt_of_heap K1.out)).trans K1.out)
  have P2 := Lib.hid (heap_alloc_at w1 (.cells #[.int .u8 po, .int .i64 pn, .string pu, .slice oo pv.length kk] 192))
  have B3 := Lib.hid (B1.out.trans (B2.mono B1.out.size))
  clear B2 g1
  try simp only at K2 P2 B3 ⊢
  generalize w1.alloc (.cells #[.int .u8 po, .int .i64 pn, .string pu, .slice oo pv.length kk] 192) = w2 at K2 P2 B3 ⊢
  generalize w1.heap.size = k7 at P2 ⊢
  go_upto_region 3 with (go_at_call 120; (with_reducible refine Calls.mono (HD.out _ B3.out) ?_); rintro e w3 ⟨hb, o2, k2, rfl, hs⟩; have B4 := Lib.hid (B3.out.trans (hb.mono B3.out.size)); have K3 := Lib.hid ((hb.block _ (lt_of_heap K2.out)).trans K2.out); have P3 := Lib.hid ((hb.block _ (lt_of_heap P2.out)).trans P2.out); clear hb hs)
  have B5 := below_new' w3 (.cells #[.int .u8 qo, .int .i64 qn, .string qu, .slice o2 qv.length k2] 192)
  have K4 := (B5.block _ (lt_of_heap K3.out)).trans K3.out
  have P4 := (B5.block _ (lt_of_heap P3.out)).trans P3.out
  have Q4 := heap_alloc_at w3 (.cells #[.int .u8 qo, .int .i64 qn, .string qu, .slice o2 qv.length k2] 192)
  have B6 := Lib.hid (B4.out.trans (B5.mono B4.out.size))
  clear B5
  try simp only at K4 P4 Q4 B6 ⊢
  generalize w3.alloc (.cells #[.int .u8 qo, .int .i64 qn, .string qu, .slice o2 qv.length k2] 192) = w4 at K4 P4 Q4 B6 ⊢
  generalize w3.heap.size = k9 at Q4 ⊢
  obtain ⟨a0, _, a2, a3⟩ := four K4
  obtain ⟨p0, _, _, _⟩ := four P4
  obtain ⟨q0, _, _, _⟩ := four Q4
  clear K4 P4 Q4
  have hcs : (ch.size : Int) ≤ 9223372036854775807 := by omega
  by_cases h100 : 100 < ch.size
  · have h100i : (100 : Int) < (ch.size : Int) := by omega
    have HV := Lib.hid (HX.out 2 (by rw [if_pos (.inl h100)]))
    clear h100
    go_wp2_with fail
    go_ret
    exact ⟨by rw [HV.out]; rfl, B6.out⟩
  have h100i : (ch.size : Int) ≤ 100 := by omega
  have q100 := decN (100 < (ch.size : Int)) (by omega)
  by_cases hce : ch = ⟨#[]⟩ ∧ first = false
  · have HV := Lib.hid (HX.out 2 (by rw [if_pos (.inr (.inl hce))]))
    obtain ⟨rfl, rfl⟩ := hce
    go_wp2_with fail
    go_ret
    exact ⟨by rw [HV.out]; rfl, B6.out⟩
  have HCE := Lib.hid hce
  clear hce
  by_cases hch : ch = ⟨#[]⟩
  · have hft : first = true := by
      cases first with
      | true => rfl
      | false => exact absurd ⟨hch, rfl⟩ HCE.out
    subst hch hft
    by_cases hex : ex < 0 ∨ 2147483648 ≤ ex
    · have HV := Lib.hid (HX.out 2 (by rw [if_pos (.inr (.inr hex))]))
      have hnb : (ex / 2147483648 != 0) = true := by simp; omega
      have hnc : (ex / 2147483648 == 0) = false := by simp; omega
      clear hex
      go_wp2_with fail
      go_ret
      exact ⟨by rw [HV.out]; rfl, B6.out⟩
    have HX2 : Hid (∀ x, (if am < 0 ∨ 2100000000000000000 < am then 40
      else if qb = false ∨ qo = 86 ∨ qo = 75 ∨ po ≠ 80 then 10 else 0) = x → v = x) := fun x h => HX.out x (by rw [if_neg (by intro hh; rcases hh with hh | hh | hh; exact h100 hh; exact HCE.out hh; exact hex hh)]; exact h)
    have hnb : (ex / 2147483648 != 0) = false := by simp; omega
    have hnc : (ex / 2147483648 == 0) = true := by simp; omega
    clear hex h100
    by_cases ha0 : am < 0
    · have HV := Lib.hid (HX2.out 40 (by rw [if_pos (.inl ha0)]))
      go_wp2_with fail
      go_ret
      exact ⟨by rw [HV.out]; rfl, B6.out⟩
    have ha0' : 0 ≤ am := by omega
    have qa0 := decN (am < 0) ha0
    by_cases ha1 : 2100000000000000000 < am
    · have HV := Lib.hid (HX2.out 40 (by rw [if_pos (.inr ha1)]))
      go_wp2_with fail
      go_ret
      exact ⟨by rw [HV.out]; rfl, B6.out⟩
    have ha1' : am ≤ 2100000000000000000 := by omega
    have qa1 := decN (2100000000000000000 < am) ha1
    have HX3 : Hid (∀ x, (if qb = false ∨ qo = 86 ∨ qo = 75 ∨ po ≠ 80 then 10 else 0) = x → v = x) := fun x h => HX2.out x (by rw [if_neg (by omega)]; exact h)
    clear HX HX2 ha0 ha1
    cases qb with
    | false =>
      have HV := Lib.hid (HX3.out 10 (by rw [if_pos (.inl rfl)]))
      go_wp2_with fail
      go_ret
      exact ⟨by rw [HV.out]; rfl, B6.out⟩
    | true =>
      by_cases c1 : qo = 86
      · have HV := Lib.hid (HX3.out 10 (by rw [if_pos (.inr (.inl c1))]))
        have ec1 : ((qo : Int) == 86) = true := by simp; omega
        clear c1
        go_wp2_with fail
        go_ret
        exact ⟨by rw [HV.out]; rfl, B6.out⟩
      have ec1 : ((qo : Int) == 86) = false := by simp; omega
      by_cases c2 : qo = 75
      · have HV := Lib.hid (HX3.out 10 (by rw [if_pos (.inr (.inr (.inl c2)))]))
        have ec2 : ((qo : Int) == 75) = true := by simp; omega
        clear c2
        go_wp2_with fail
        go_ret
        exact ⟨by rw [HV.out]; rfl, B6.out⟩
      have ec2 : ((qo : Int) == 75) = false := by simp; omega
      by_cases c3 : po = 80
      · have HV := Lib.hid (HX3.out 0 (by rw [if_neg (by intro hh; rcases hh with hh | hh | hh | hh; cases hh; exact c1 hh; exact c2 hh; exact hh c3)]))
        subst c3
        clear c1 c2
        go_wp2_with fail
        go_ret
        exact ⟨by rw [HV.out]; rfl, B6.out⟩
      · have HV := Lib.hid (HX3.out 10 (by rw [if_pos (.inr (.inr (.inr c3)))]))
        have ec3 : ((po : Int) != 80) = true := by simp; omega
        have ec4 : ((po : Int) == 80) = false := by simp; omega
        clear c1 c2 c3
        go_wp2_with fail
        go_ret
        exact ⟨by rw [HV.out]; rfl, B6.out⟩
  · have e0 : (ch.toList == []) = false := by have := toList_ne hch; rw [empty_list] at this; exact this
    clear hch
    by_cases hex : ex < 0 ∨ 2147483648 ≤ ex
    · have HV := Lib.hid (HX.out 2 (by rw [if_pos (.inr (.inr hex))]))
      have hnb : (ex / 2147483648 != 0) = true := by simp; omega
      have hnc : (ex / 2147483648 == 0) = false := by simp; omega
      clear hex
      go_wp2_with fail
      go_ret
      exact ⟨by rw [HV.out]; rfl, B6.out⟩
    have HX2 : Hid (∀ x, (if am < 0 ∨ 2100000000000000000 < am then 40
      else if qb = false ∨ qo = 86 ∨ qo = 75 ∨ po ≠ 80 then 10 else 0) = x → v = x) := fun x h => HX.out x (by rw [if_neg (by intro hh; rcases hh with hh | hh | hh; exact h100 hh; exact HCE.out hh; exact hex hh)]; exact h)
    have hnb : (ex / 2147483648 != 0) = false := by simp; omega
    have hnc : (ex / 2147483648 == 0) = true := by simp; omega
    clear hex h100
    by_cases ha0 : am < 0
    · have HV := Lib.hid (HX2.out 40 (by rw [if_pos (.inl ha0)]))
      go_wp2_with fail
      go_ret
      exact ⟨by rw [HV.out]; rfl, B6.out⟩
    have ha0' : 0 ≤ am := by omega
    have qa0 := decN (am < 0) ha0
    by_cases ha1 : 2100000000000000000 < am
    · have HV := Lib.hid (HX2.out 40 (by rw [if_pos (.inr ha1)]))
      go_wp2_with fail
      go_ret
      exact ⟨by rw [HV.out]; rfl, B6.out⟩
    have ha1' : am ≤ 2100000000000000000 := by omega
    have qa1 := decN (2100000000000000000 < am) ha1
    have HX3 : Hid (∀ x, (if qb = false ∨ qo = 86 ∨ qo = 75 ∨ po ≠ 80 then 10 else 0) = x → v = x) := fun x h => HX2.out x (by rw [if_neg (by omega)]; exact h)
    clear HX HX2 ha0 ha1
    cases qb with
    | false =>
      have HV := Lib.hid (HX3.out 10 (by rw [if_pos (.inl rfl)]))
      go_wp2_with fail
      go_ret
      exact ⟨by rw [HV.out]; rfl, B6.out⟩
    | true =>
      by_cases c1 : qo = 86
      · have HV := Lib.hid (HX3.out 10 (by rw [if_pos (.inr (.inl c1))]))
        have ec1 : ((qo : Int) == 86) = true := by simp; omega
        clear c1
        go_wp2_with fail
        go_ret
        exact ⟨by rw [HV.out]; rfl, B6.out⟩
      have ec1 : ((qo : Int) == 86) = false := by simp; omega
      by_cases c2 : qo = 75
      · have HV := Lib.hid (HX3.out 10 (by rw [if_pos (.inr (.inr (.inl c2)))]))
        have ec2 : ((qo : Int) == 75) = true := by simp; omega
        clear c2
        go_wp2_with fail
        go_ret
        exact ⟨by rw [HV.out]; rfl, B6.out⟩
      have ec2 : ((qo : Int) == 75) = false := by simp; omega
      by_cases c3 : po = 80
      · have HV := Lib.hid (HX3.out 0 (by rw [if_neg (by intro hh; rcases hh with hh | hh | hh | hh; cases hh; exact c1 hh; exact c2 hh; exact hh c3)]))
        subst c3
        clear c1 c2
        go_wp2_with fail
        go_ret
        exact ⟨by rw [HV.out]; rfl, B6.out⟩
      · have HV := Lib.hid (HX3.out 10 (by rw [if_pos (.inr (.inr (.inr c3)))]))
        have ec3 : ((po : Int) != 80) = true := by simp; omega
        have ec4 : ((po : Int) == 80) = false := by simp; omega
        clear c1 c2 c3
        go_wp2_with fail
        go_ret
        exact ⟨by rw [HV.out]; rfl, B6.out⟩
set_option maxRecDepth 100000 in
set_option maxHeartbeats 16000000 in
theorem dhop_any (ch nd : ByteArray) (am ex : Int) (first : Bool) (d : ByteArray) (w : World) (h1 : ch.size ≤ maxLen) (h2 : nd.size ≤ maxLen) (h3 : d.size ≤ maxLen) : Calls Tryz.prog 178 #[.agg #[.string ch, .string nd, .int .i64 am, .int .i64 ex], .bool first, .string d] w fun e w' => e = .returned (.int .i64 (hopE ⟨ch, nd, am, ex⟩ first d)) ∧ Below w.heap.size w w' := by
  have HN : Hid (∀ W, Below w.heap.size w W → Calls Tryz.prog 124 #[.string nd] W (OneForm (op4 nd.data.toList) W)) := fun W hW => dopen_any nd W h2
  have HD : Hid (∀ W, Below w.heap.size w W → Calls Tryz.prog 124 #[.string d] W (OneForm (op4 d.data.toList) W)) := fun W hW => dopen_any d W h3
  have hno := op4_no (l := d.data.toList)
  have hnn := op4_no (l := nd.data.toList)
  have HX : Hid (∀ x, (if 100 < ch.size ∨ (ch = ⟨#[]⟩ ∧ first = false) ∨ ex < 0 ∨ 2147483648 ≤ ex then 2
  else if am < 0 ∨ 2100000000000000000 < am then 40
  else if (op4 d.data.toList).b = false ∨ (op4 d.data.toList).op = 86 ∨ (op4 d.data.toList).op = 75 ∨ (op4 nd.data.toList).op ≠ 80 then 10 else 0) = x → hopE ⟨ch, nd, am, ex⟩ first d = x) := fun x h => h
  obtain ⟨v, hv⟩ : ∃ v, hopE ⟨ch, nd, am, ex⟩ first d = v := ⟨_, rfl⟩
  rw [hv] at HX ⊢
  clear hv
  obtain ⟨q, hq⟩ : ∃ q, op4 d.data.toList = q := ⟨_, rfl⟩
  obtain ⟨p, hp⟩ : ∃ p, op4 nd.data.toList = p := ⟨_, rfl⟩
  rw [hq] at HX HD hno
  rw [hp] at HX HN hnn
  clear hq hp
  obtain ⟨qo, qn, qu, qv, qb⟩ := q
  obtain ⟨po, pn, pu, pv, pb⟩ := p
  simp only at HX hno hnn
  have HNO := Lib.hid hno
  have HNN := Lib.hid hnn
  clear hno hnn
  unfold maxLen at h1
  go_enter Tryz.func178, Tryz.ntmps178
  go_upto_region 1 with fail
  have K0 := heap_alloc_at w (.cells #[.string ch, .string nd, .int .i64 am, .int .i64 ex] 49)
  have B0 := Lib.hid (below_new' w (.cells #[.string ch, .string nd, .int .i64 am, .int .i64 ex] 49))
  generalize w.alloc (.cells #[.string ch, .string nd, .int .i64 am, .int .i64 ex] 49) = w0 at K0 B0 ⊢
  obtain ⟨k3, hk3⟩ : ∃ k, w.heap.size = k := ⟨_, rfl⟩
  have HK3 := Lib.hid hk3
  rw [hk3] at K0 ⊢
  clear hk3
  have HK0 := Lib.hid K0
  obtain ⟨_, g1, _, _⟩ := four K0
  clear K0
  go_upto_region 2 with (go_at_call 124; (with_reducible refine Calls.mono (HN.out _ B0.out) ?_); rintro e w1 ⟨hb, oo, kk, rfl, hs⟩; have B1 := Lib.hid (B0.out.trans (hb.mono B0.out.size)); have K1 := Lib.hid ((hb.block _ (lt_of_heap HK0.out)).trans HK0.out); clear hb hs)
  have B2 := below_new' w1 (.cells #[.int .u8 po, .int .i64 pn, .string pu, .slice oo pv.length kk] 192)
  have K2 := Lib.hid ((B2.block _ (lt_of_heap K1.out)).trans K1.out)
  have P2 := Lib.hid (heap_alloc_at w1 (.cells #[.int .u8 po, .int .i64 pn, .string pu, .slice oo pv.length kk] 192))
  have B3 := Lib.hid (B1.out.trans (B2.mono B1.out.size))
  clear B2 g1
  try simp only at K2 P2 B3 ⊢
  generalize w1.alloc (.cells #[.int .u8 po, .int .i64 pn, .string pu, .slice oo pv.length kk] 192) = w2 at K2 P2 B3 ⊢
  generalize w1.heap.size = k7 at P2 ⊢
  go_upto_region 3 with (go_at_call 124; (with_reducible refine Calls.mono (HD.out _ B3.out) ?_); rintro e w3 ⟨hb, o2, k2, rfl, hs⟩; have B4 := Lib.hid (B3.out.trans (hb.mono B3.out.size)); have K3 := Lib.hid ((hb.block _ (lt_of_heap K2.out)).trans K2.out); have P3 := Lib.hid ((hb.block _ (lt_of_heap P2.out)).trans P2.out); clear hb hs)
  have B5 := below_new' w3 (.cells #[.int .u8 qo, .int .i64 qn, .string qu, .slice o2 qv.length k2] 192)
  have K4 := (B5.block _ (lt_of_heap K3.out)).trans K3.out
  have P4 := (B5.block _ (lt_of_heap P3.out)).trans P3.out
  have Q4 := heap_alloc_at w3 (.cells #[.int .u8 qo, .int .i64 qn, .string qu, .slice o2 qv.length k2] 192)
  have B6 := Lib.hid (B4.out.trans (B5.mono B4.out.size))
  clear B5
  try simp only at K4 P4 Q4 B6 ⊢
  generalize w3.alloc (.cells #[.int .u8 qo, .int .i64 qn, .string qu, .slice o2 qv.length k2] 192) = w4 at K4 P4 Q4 B6 ⊢
  generalize w3.heap.size = k9 at Q4 ⊢
  obtain ⟨a0, _, a2, a3⟩ := four K4
  obtain ⟨p0, _, _, _⟩ := four P4
  obtain ⟨q0, _, _, _⟩ := four Q4
  clear K4 P4 Q4
  have hcs : (ch.size : Int) ≤ 9223372036854775807 := by omega
  by_cases h100 : 100 < ch.size
  · have h100i : (100 : Int) < (ch.size : Int) := by omega
    have HV := Lib.hid (HX.out 2 (by rw [if_pos (.inl h100)]))
    clear h100
    go_wp2_with fail
    go_ret
    exact ⟨by rw [HV.out]; rfl, B6.out⟩
  have h100i : (ch.size : Int) ≤ 100 := by omega
  have q100 := decN (100 < (ch.size : Int)) (by omega)
  by_cases hce : ch = ⟨#[]⟩ ∧ first = false
  · have HV := Lib.hid (HX.out 2 (by rw [if_pos (.inr (.inl hce))]))
    obtain ⟨rfl, rfl⟩ := hce
    go_wp2_with fail
    go_ret
    exact ⟨by rw [HV.out]; rfl, B6.out⟩
  have HCE := Lib.hid hce
  clear hce
  by_cases hch : ch = ⟨#[]⟩
  · have hft : first = true := by
      cases first with
      | true => rfl
      | false => exact absurd ⟨hch, rfl⟩ HCE.out
    subst hch hft
    by_cases hex : ex < 0 ∨ 2147483648 ≤ ex
    · have HV := Lib.hid (HX.out 2 (by rw [if_pos (.inr (.inr hex))]))
      by_cases he0 : ex < 0
      · clear hex
        go_wp2_with fail
        go_ret
        exact ⟨by rw [HV.out]; rfl, B6.out⟩
      · have he1 : 2147483648 ≤ ex := by omega
        have he0' : 0 ≤ ex := by omega
        have qx := decN (ex < 0) he0
        clear hex
        go_wp2_with fail
        go_ret
        exact ⟨by rw [HV.out]; rfl, B6.out⟩
    have HX2 : Hid (∀ x, (if am < 0 ∨ 2100000000000000000 < am then 40
      else if qb = false ∨ qo = 86 ∨ qo = 75 ∨ po ≠ 80 then 10 else 0) = x → v = x) := fun x h => HX.out x (by rw [if_neg (by intro hh; rcases hh with hh | hh | hh; exact h100 hh; exact HCE.out hh; exact hex hh)]; exact h)
    have he0 : 0 ≤ ex := by omega
    have he1 : ex < 2147483648 := by omega
    have qx := decN (ex < 0) (by omega)
    have qy := decN (2147483648 ≤ ex) (by omega)
    clear hex h100
    by_cases ha0 : am < 0
    · have HV := Lib.hid (HX2.out 40 (by rw [if_pos (.inl ha0)]))
      go_wp2_with fail
      go_ret
      exact ⟨by rw [HV.out]; rfl, B6.out⟩
    have ha0' : 0 ≤ am := by omega
    have qa0 := decN (am < 0) ha0
    by_cases ha1 : 2100000000000000000 < am
    · have HV := Lib.hid (HX2.out 40 (by rw [if_pos (.inr ha1)]))
      go_wp2_with fail
      go_ret
      exact ⟨by rw [HV.out]; rfl, B6.out⟩
    have ha1' : am ≤ 2100000000000000000 := by omega
    have qa1 := decN (2100000000000000000 < am) ha1
    have HX3 : Hid (∀ x, (if qb = false ∨ qo = 86 ∨ qo = 75 ∨ po ≠ 80 then 10 else 0) = x → v = x) := fun x h => HX2.out x (by rw [if_neg (by omega)]; exact h)
    clear HX HX2 ha0 ha1
    cases qb with
    | false =>
      have HV := Lib.hid (HX3.out 10 (by rw [if_pos (.inl rfl)]))
      go_wp2_with fail
      go_ret
      exact ⟨by rw [HV.out]; rfl, B6.out⟩
    | true =>
      by_cases c1 : qo = 86
      · have HV := Lib.hid (HX3.out 10 (by rw [if_pos (.inr (.inl c1))]))
        have ec1 : ((qo : Int) == 86) = true := by simp; omega
        clear c1
        go_wp2_with fail
        go_ret
        exact ⟨by rw [HV.out]; rfl, B6.out⟩
      have ec1 : ((qo : Int) == 86) = false := by simp; omega
      by_cases c2 : qo = 75
      · have HV := Lib.hid (HX3.out 10 (by rw [if_pos (.inr (.inr (.inl c2)))]))
        have ec2 : ((qo : Int) == 75) = true := by simp; omega
        clear c2
        go_wp2_with fail
        go_ret
        exact ⟨by rw [HV.out]; rfl, B6.out⟩
      have ec2 : ((qo : Int) == 75) = false := by simp; omega
      by_cases c3 : po = 80
      · have HV := Lib.hid (HX3.out 0 (by rw [if_neg (by intro hh; rcases hh with hh | hh | hh | hh; cases hh; exact c1 hh; exact c2 hh; exact hh c3)]))
        have hpb : pb = true := by
          cases pb with
          | true => rfl
          | false => exact absurd (HNN.out rfl) (by omega)
        subst hpb
        subst c3
        clear c1 c2
        go_wp2_with fail
        go_ret
        exact ⟨by rw [HV.out]; rfl, B6.out⟩
      · have HV := Lib.hid (HX3.out 10 (by rw [if_pos (.inr (.inr (.inr c3)))]))
        have ec3 : ((po : Int) != 80) = true := by simp; omega
        have ec4 : ((po : Int) == 80) = false := by simp; omega
        clear c1 c2 c3
        cases pb <;>
        · go_wp2_with fail
          go_ret
          exact ⟨by rw [HV.out]; rfl, B6.out⟩
  · have e0 : (ch.toList == []) = false := by have := toList_ne hch; rw [empty_list] at this; exact this
    clear hch
    by_cases hex : ex < 0 ∨ 2147483648 ≤ ex
    · have HV := Lib.hid (HX.out 2 (by rw [if_pos (.inr (.inr hex))]))
      by_cases he0 : ex < 0
      · clear hex
        go_wp2_with fail
        go_ret
        exact ⟨by rw [HV.out]; rfl, B6.out⟩
      · have he1 : 2147483648 ≤ ex := by omega
        have he0' : 0 ≤ ex := by omega
        have qx := decN (ex < 0) he0
        clear hex
        go_wp2_with fail
        go_ret
        exact ⟨by rw [HV.out]; rfl, B6.out⟩
    have HX2 : Hid (∀ x, (if am < 0 ∨ 2100000000000000000 < am then 40
      else if qb = false ∨ qo = 86 ∨ qo = 75 ∨ po ≠ 80 then 10 else 0) = x → v = x) := fun x h => HX.out x (by rw [if_neg (by intro hh; rcases hh with hh | hh | hh; exact h100 hh; exact HCE.out hh; exact hex hh)]; exact h)
    have he0 : 0 ≤ ex := by omega
    have he1 : ex < 2147483648 := by omega
    have qx := decN (ex < 0) (by omega)
    have qy := decN (2147483648 ≤ ex) (by omega)
    clear hex h100
    by_cases ha0 : am < 0
    · have HV := Lib.hid (HX2.out 40 (by rw [if_pos (.inl ha0)]))
      go_wp2_with fail
      go_ret
      exact ⟨by rw [HV.out]; rfl, B6.out⟩
    have ha0' : 0 ≤ am := by omega
    have qa0 := decN (am < 0) ha0
    by_cases ha1 : 2100000000000000000 < am
    · have HV := Lib.hid (HX2.out 40 (by rw [if_pos (.inr ha1)]))
      go_wp2_with fail
      go_ret
      exact ⟨by rw [HV.out]; rfl, B6.out⟩
    have ha1' : am ≤ 2100000000000000000 := by omega
    have qa1 := decN (2100000000000000000 < am) ha1
    have HX3 : Hid (∀ x, (if qb = false ∨ qo = 86 ∨ qo = 75 ∨ po ≠ 80 then 10 else 0) = x → v = x) := fun x h => HX2.out x (by rw [if_neg (by omega)]; exact h)
    clear HX HX2 ha0 ha1
    cases qb with
    | false =>
      have HV := Lib.hid (HX3.out 10 (by rw [if_pos (.inl rfl)]))
      go_wp2_with fail
      go_ret
      exact ⟨by rw [HV.out]; rfl, B6.out⟩
    | true =>
      by_cases c1 : qo = 86
      · have HV := Lib.hid (HX3.out 10 (by rw [if_pos (.inr (.inl c1))]))
        have ec1 : ((qo : Int) == 86) = true := by simp; omega
        clear c1
        go_wp2_with fail
        go_ret
        exact ⟨by rw [HV.out]; rfl, B6.out⟩
      have ec1 : ((qo : Int) == 86) = false := by simp; omega
      by_cases c2 : qo = 75
      · have HV := Lib.hid (HX3.out 10 (by rw [if_pos (.inr (.inr (.inl c2)))]))
        have ec2 : ((qo : Int) == 75) = true := by simp; omega
        clear c2
        go_wp2_with fail
        go_ret
        exact ⟨by rw [HV.out]; rfl, B6.out⟩
      have ec2 : ((qo : Int) == 75) = false := by simp; omega
      by_cases c3 : po = 80
      · have HV := Lib.hid (HX3.out 0 (by rw [if_neg (by intro hh; rcases hh with hh | hh | hh | hh; cases hh; exact c1 hh; exact c2 hh; exact hh c3)]))
        have hpb : pb = true := by
          cases pb with
          | true => rfl
          | false => exact absurd (HNN.out rfl) (by omega)
        subst hpb
        subst c3
        clear c1 c2
        go_wp2_with fail
        go_ret
        exact ⟨by rw [HV.out]; rfl, B6.out⟩
      · have HV := Lib.hid (HX3.out 10 (by rw [if_pos (.inr (.inr (.inr c3)))]))
        have ec3 : ((po : Int) != 80) = true := by simp; omega
        have ec4 : ((po : Int) == 80) = false := by simp; omega
        clear c1 c2 c3
        cases pb <;>
        · go_wp2_with fail
          go_ret
          exact ⟨by rw [HV.out]; rfl, B6.out⟩
end Go.Proofs.YtbdimlppnhcicaaGreatDoor
