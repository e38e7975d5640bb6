/- wire: may -/
import Derived.Test.YtakfhoodjcfpcaaDoorWrD
namespace Go.Proofs.YtakfhoodjcfpcaaDoor.T
set_option linter.unusedVariables false
set_option maxRecDepth 100000
open Go.RowKit Tlv Wire
/-! wire: may -/
theorem unk_nil (L : List Rec) : unkN [] L = unk L := by
  unfold unkN unk
  congr 1
  funext r
  unfold pU hasN
  simp only [List.any_nil, Bool.not_false, Bool.and_true]
  rw [Bool.eq_iff_iff, beq_iff_eq, beq_iff_eq]
  omega
theorem unknown_nil (a : Option Addr) (c : Nat) (L : List Rec) (w : World) (hm : L.length ≤ 4000) (hr : Recs w a L) : Calls Tryd.prog 42 #[.slice a L.length c, .slice none 0 0] w (BoolPost (unk L) w) := by
  rw [← unk_nil]
  exact unknown_any none 0 [] a c L w hm (by simp) hr (.inl rfl)
theorem unknownr_nil (a : Option Addr) (c : Nat) (L : List Rec) (w : World) (hm : L.length ≤ 4000) (hr : Recs w a L) : Calls Tryd.prog 49 #[.slice a L.length c, .slice none 0 0] w (BoolPost (unk L) w) := by
  rw [← unk_nil]
  exact unknownr_any none 0 [] a c L w hm (by simp) hr (.inl rfl)
/-- sizes of a message -/
structure MB (m : Wire.Msg) : Prop where
  chan : m.chan.size ≤ 100000
  text : m.text.size ≤ 100000
  ln : m.nums.length ≤ 100000
  lt : m.terms.length ≤ 100000
  terms : ∀ t ∈ m.terms, t.size ≤ 100000
  lm : m.more.length ≤ 4000
  types : ∀ r ∈ m.more, r.t < 18446744073709551616
  bodies : ∀ r ∈ m.more, r.body.length ≤ 100000
/-- a message's parts lie there -/
structure MA (w : World) (m : Wire.Msg) (na ta ra : Option Addr) : Prop where
  nums : Ints w na m.nums
  terms : Strs w ta m.terms
  more : Recs w ra m.more
theorem MA.later {w w' : World} {m : Wire.Msg} {na ta ra : Option Addr} (h : MA w m na ta ra) (hb : Below w.heap.size w w') : MA w' m na ta ra := ⟨h.nums.later hb, h.terms.later hb, h.more.below hb⟩
def msgV (m : Wire.Msg) (na : Option Addr) (nc : Nat) (ta : Option Addr) (tc : Nat) (ra : Option Addr) (rc : Nat) : Array Value := #[.int .u16 (m.kind : Int), .string m.chan, .slice na m.nums.length nc, .slice ta m.terms.length tc, .string m.text, .slice ra m.more.length rc]
def MC (w : World) (mb : Nat) (cs : Array Value) : Prop := w.heap[mb]? = some (.cells cs 27 (0, 0))
theorem MC.later {w w' : World} {mb : Nat} {cs : Array Value} (h : MC w mb cs) (hb : Below w.heap.size w w') : MC w' mb cs := (hb.block mb (lt_of_heap h)).trans h
theorem MC.cells {w : World} {mb : Nat} {a b c d e f : Value} (h : MC w mb #[a, b, c, d, e, f]) : w.cell? ⟨mb, 0, none⟩ = some a ∧ w.cell? ⟨mb, 1, none⟩ = some b ∧ w.cell? ⟨mb, 2, none⟩ = some c ∧ w.cell? ⟨mb, 3, none⟩ = some d ∧ w.cell? ⟨mb, 4, none⟩ = some e ∧ w.cell? ⟨mb, 5, none⟩ = some f := by
  refine ⟨?_, ?_, ?_, ?_, ?_, ?_⟩ <;> (rw [cell_of_row _ _ _ _ _ _ h]; rfl)
theorem ra_all (m : Wire.Msg) : (m.terms.all fun t => R t.data.toList) = RA m.terms := rfl
theorem nat_beq (a b : Nat) : (a == b) = ((a : Int) == (b : Int)) := by
  rw [Bool.eq_iff_iff, beq_iff_eq, beq_iff_eq]
  omega
theorem nat_le (a b : Nat) : decide (a ≤ b) = decide ((a : Int) ≤ (b : Int)) := by
  rw [Bool.eq_iff_iff, decide_eq_true_iff, decide_eq_true_iff]
  omega
theorem nat_odd (a : Nat) : (a % 2 == 1) = !((a : Int) % 2 == 0) := by
  rw [Bool.eq_iff_iff]
  simp only [beq_iff_eq, Bool.not_eq_true', beq_eq_false_iff_ne, ne_eq]
  omega
theorem may_form (c3 u rb : Bool) (k nl tl c1 c2 cs ts sE : Nat) : ((if c3 = true then nl == c1 && tl == c2 else k % 2 == 1 && decide (nl ≤ 32) && decide (tl ≤ 32)) && decide (cs ≤ 100) && decide (ts ≤ 4096) && !u && sE == 0 && rb) =
    ((if c3 = true then ((nl : Int) == (c1 : Int)) && ((tl : Int) == (c2 : Int)) else !((k : Int) % 2 == 0) && decide ((nl : Int) ≤ 32) && decide ((tl : Int) ≤ 32)) && decide ((cs : Int) ≤ 100) && decide ((ts : Int) ≤ 4096) && !u && sE == 0 && rb) := by
  rw [nat_beq nl c1, nat_beq tl c2, nat_odd, nat_le nl, nat_le tl, nat_le cs, nat_le ts]
  rfl
set_option maxHeartbeats 8000000 in
theorem may_any (m : Wire.Msg) (na : Option Addr) (nc : Nat) (ta : Option Addr) (tc : Nat) (ra : Option Addr) (rc : Nat) (w : World) (hB : MB m) (hA : MA w m na ta ra) (hL : LibOk w) :
    Calls Tryd.prog 23 #[.agg #[.int .u16 (m.kind : Int), .string m.chan, .slice na m.nums.length nc, .slice ta m.terms.length tc, .string m.text, .slice ra m.more.length rc]] w (BoolPost (mayN R m) w) := by
  obtain ⟨kind, chan, nums, terms, text, more⟩ := m
  obtain ⟨B, hBv⟩ : ∃ B, mayN R ⟨kind, chan, nums, terms, text, more⟩ = B := ⟨_, rfl⟩
  rw [hBv]
  unfold mayN fitN at hBv
  rw [show (Wire.Msg.terms ⟨kind, chan, nums, terms, text, more⟩).all (fun t => R t.data.toList) = RA terms from rfl] at hBv
  dsimp only at hBv ⊢
  have HA := Lib.hid hA
  have HL := Lib.hid hL
  have hc := counts_any kind
  unfold CntPost at hc
  obtain ⟨c1, hc1⟩ : ∃ c1 : Nat, (countsN kind).1 = c1 := ⟨_, rfl⟩
  obtain ⟨c2, hc2⟩ : ∃ c2 : Nat, (countsN kind).2.1 = c2 := ⟨_, rfl⟩
  obtain ⟨c3, hc3⟩ : ∃ c3, (countsN kind).2.2 = c3 := ⟨_, rfl⟩
  obtain ⟨u, hu⟩ : ∃ u, unk more = u := ⟨_, rfl⟩
  obtain ⟨sE, hsE⟩ : ∃ sE, (streamN more).2 = sE := ⟨_, rfl⟩
  obtain ⟨ra', hra⟩ : ∃ r, RA terms = r := ⟨_, rfl⟩
  rw [hc1, hc2, hc3] at hBv
  rw [hu, hsE, hra] at hBv
  simp only [hc1, hc2, hc3] at hc
  have HCT := Lib.hid hc
  have HU := Lib.hid (fun (W : World) (h : Recs W ra more) => unknown_nil ra rc more W hB.lm h)
  have HS := Lib.hid (fun (W : World) (h : Recs W ra more) => stream_any ra rc more W (by have := hB.lm; unfold maxLen; simp only at this; omega) h hB.types (fun r hr => Nat.le_trans (hB.bodies r hr) (by omega)))
  have HW := Lib.hid (fun (W : World) (h : Strs W ta terms) (hL : LibOk W) => anyw ta tc terms ra' hra W (by have := hB.lt; simp only at this; omega) (fun t ht => Nat.le_trans (hB.terms t ht) (by unfold maxLen; omega)) h hL)
  unfold StreamPost at HS
  rw [hu] at HU
  rw [hsE] at HS
  rw [may_form] at hBv
  have HBV := Lib.hid hBv
  have hk0 : (0 : Int) ≤ (kind : Int) := by omega
  clear hA hL hc1 hc2 hc3 hu hsE hra hc hBv hB
  have hmc : MC (w.alloc (.cells #[.int .u16 (kind : Int), .string chan, .slice na nums.length nc, .slice ta terms.length tc, .string text, .slice ra more.length rc] 27)) w.heap.size #[.int .u16 (kind : Int), .string chan, .slice na nums.length nc, .slice ta terms.length tc, .string text, .slice ra more.length rc] := heap_alloc_at w _
  have HMC := Lib.hid hmc
  have HA0 := Lib.hid (HA.out.later (below_new w (.cells #[.int .u16 (kind : Int), .string chan, .slice na nums.length nc, .slice ta terms.length tc, .string text, .slice ra more.length rc] 27)))
  have HB0 := Lib.hid (below_new w (.cells #[.int .u16 (kind : Int), .string chan, .slice na nums.length nc, .slice ta terms.length tc, .string text, .slice ra more.length rc] 27))
  clear hmc
  go_enter Tryd.func23, Tryd.ntmps23
  go_wp2_with (first
    | (go_at_call 10; (with_reducible refine Calls.mono (HCT.out _) ?_); rintro e w1 ⟨rfl, hb1⟩; obtain ⟨d0, d1, d2, d3, d4, d5⟩ := (HMC.out.later hb1).cells; have HA1 := Lib.hid (HA0.out.later hb1); have HB1 := Lib.hid (HB0.out.trans (hb1.mono HB0.out.size)); have HM1 := Lib.hid (HMC.out.later hb1); clear hb1)
    | (go_at_call 42; (with_reducible refine Calls.mono (HU.out _ HA1.out.more) ?_); rintro e w2 ⟨rfl, hb2⟩; obtain ⟨f0, f1, f2, f3, f4, f5⟩ := (HM1.out.later hb2).cells; have HA2 := Lib.hid (HA1.out.later hb2); have HB2 := Lib.hid (HB1.out.trans (hb2.mono HB1.out.size)); have HM2 := Lib.hid (HM1.out.later hb2); clear hb2)
    | (go_at_call 27; (with_reducible refine Calls.mono (HS.out _ HA2.out.more) ?_); rintro e w3 ⟨v3, rfl, hv3, hb3⟩; obtain ⟨g0, g1, g2, g3, g4, g5⟩ := (HM2.out.later hb3).cells; have HA3 := Lib.hid (HA2.out.later hb3); have HB3 := Lib.hid (HB2.out.trans (hb3.mono HB2.out.size)); clear hb3 hv3)
    | (go_at_call 43; (with_reducible refine Calls.mono (HW.out _ HA3.out.terms (lib_later HL.out HB3.out)) ?_); rintro e w4 ⟨rfl, hb4⟩; have HB4 := Lib.hid (HB3.out.trans (hb4.mono HB3.out.size)); clear hb4))
  all_goals go_ret
  all_goals refine ⟨?_, by first | exact HB4.out | exact HB3.out | exact HB2.out | exact HB1.out⟩
  all_goals
    have hf := HBV.out
    clear HBV HA HL HCT HU HS HW HMC HA0 HB0
    subst hf
    try clear d0 d1 d2 d3 d4 d5
    try clear f0 f1 f2 f3 f4 f5
    try clear g0 g1 g2 g3 g4 g5
    simp only [Ending.returned.injEq]
  all_goals (try simp_all)
  all_goals (intros; exfalso; first | omega | (simp_all; done) | (simp_all; omega))
set_option maxHeartbeats 8000000 in
theorem mayr_any (m : Wire.Msg) (na : Option Addr) (nc : Nat) (ta : Option Addr) (tc : Nat) (ra : Option Addr) (rc : Nat) (w : World) (hB : MB m) (hbd : bodies m.more ≤ 4000) (hA : MA w m na ta ra) :
    Calls Tryd.prog 29 #[.agg #[.int .u16 (m.kind : Int), .string m.chan, .slice na m.nums.length nc, .slice ta m.terms.length tc, .string m.text, .slice ra m.more.length rc]] w (BoolPost (mayN R m) w) := by
  obtain ⟨kind, chan, nums, terms, text, more⟩ := m
  obtain ⟨B, hBv⟩ : ∃ B, mayN R ⟨kind, chan, nums, terms, text, more⟩ = B := ⟨_, rfl⟩
  rw [hBv]
  unfold mayN fitN at hBv
  rw [show (Wire.Msg.terms ⟨kind, chan, nums, terms, text, more⟩).all (fun t => R t.data.toList) = RA terms from rfl] at hBv
  dsimp only at hBv hbd ⊢
  have HA := Lib.hid hA
  have hc := countsr_any kind
  unfold CntPost at hc
  obtain ⟨c1, hc1⟩ : ∃ c1 : Nat, (countsN kind).1 = c1 := ⟨_, rfl⟩
  obtain ⟨c2, hc2⟩ : ∃ c2 : Nat, (countsN kind).2.1 = c2 := ⟨_, rfl⟩
  obtain ⟨c3, hc3⟩ : ∃ c3, (countsN kind).2.2 = c3 := ⟨_, rfl⟩
  obtain ⟨u, hu⟩ : ∃ u, unk more = u := ⟨_, rfl⟩
  obtain ⟨sE, hsE⟩ : ∃ sE, (streamN more).2 = sE := ⟨_, rfl⟩
  obtain ⟨ra', hra⟩ : ∃ r, RA terms = r := ⟨_, rfl⟩
  rw [hc1, hc2, hc3] at hBv
  rw [hu, hsE, hra] at hBv
  simp only [hc1, hc2, hc3] at hc
  have HCT := Lib.hid hc
  have HU := Lib.hid (fun (W : World) (h : Recs W ra more) => unknownr_nil ra rc more W hB.lm h)
  have HS := Lib.hid (fun (W : World) (h : Recs W ra more) => show Calls Tryd.prog 32 #[.slice ra more.length rc] W (StreamPost more W) from by
    by_cases hl : more.length ≤ 64
    · exact streamr_few ra rc more W hl h hB.types hbd
    · exact streamr_many ra rc more W (by omega) (by have := hB.lm; unfold maxLen; simp only at this; omega))
  unfold StreamPost at HS
  rw [hu] at HU
  rw [hsE] at HS
  rw [may_form] at hBv
  have HBV := Lib.hid hBv
  have HRA : Hid (RA (terms.drop 0) = ra') := hra
  have HT : Hid (∀ t ∈ terms, t.size ≤ maxLen) := fun t ht => Nat.le_trans (hB.terms t ht) (by unfold maxLen; omega)
  have hlt : terms.length ≤ 100000 := hB.lt
  have hk0 : (0 : Int) ≤ (kind : Int) := by omega
  clear hA hc1 hc2 hc3 hu hsE hra hc hBv hB
  have hmc : MC (w.alloc (.cells #[.int .u16 (kind : Int), .string chan, .slice na nums.length nc, .slice ta terms.length tc, .string text, .slice ra more.length rc] 27)) w.heap.size #[.int .u16 (kind : Int), .string chan, .slice na nums.length nc, .slice ta terms.length tc, .string text, .slice ra more.length rc] := heap_alloc_at w _
  have HMC := Lib.hid hmc
  have HA0 := Lib.hid (HA.out.later (below_new w (.cells #[.int .u16 (kind : Int), .string chan, .slice na nums.length nc, .slice ta terms.length tc, .string text, .slice ra more.length rc] 27)))
  have HB0 := Lib.hid (below_new w (.cells #[.int .u16 (kind : Int), .string chan, .slice na nums.length nc, .slice ta terms.length tc, .string text, .slice ra more.length rc] 27))
  clear hmc
  go_enter Tryd.func29, Tryd.ntmps29
  go_wp2_with (go_at_call 11; (with_reducible refine Calls.mono (HCT.out _) ?_); rintro e w1 ⟨rfl, hb1⟩; obtain ⟨d0, d1, d2, d3, d4, d5⟩ := (HMC.out.later hb1).cells; have HA1 := Lib.hid (HA0.out.later hb1); have HB1 := Lib.hid (HB0.out.trans (hb1.mono HB0.out.size)); have HM1 := Lib.hid (HMC.out.later hb1); clear hb1)
  all_goals first
    | (go_ret
       refine ⟨?_, HB1.out⟩
       have hf := HBV.out
       clear HBV HA HCT HU HS HMC HA0 HB0 HRA HT HA1 HB1 HM1
       subst hf
       clear d0 d1 d2 d3 d4 d5
       simp only [Ending.returned.injEq]
       try simp_all
       try (intros; exfalso; first | omega | (simp_all; done) | (simp_all; omega))
       done)
    | skip
  all_goals
    have hfit : Hid ((if c3 = true then ((nums.length : Int) == (c1 : Int)) && ((terms.length : Int) == (c2 : Int)) else !((kind : Int) % 2 == 0) && decide ((nums.length : Int) ≤ 32) && decide ((terms.length : Int) ≤ 32)) = true) := by
      clear HBV HA HCT HU HS HMC HA0 HB0 HRA HT HA1 HB1 HM1
      clear d0 d1 d2 d3 d4 d5
      show _ = _
      simp_all
    have hbv2 := HBV.out
    rw [hfit.out] at hbv2
    have HBV2 := Lib.hid hbv2
    clear hbv2 HBV d0 d1 d2 d3 d4 d5 hfit
  all_goals cases c3
  all_goals try contradiction
  all_goals try simp only [*]
  all_goals
    go_loopw [6] (fun iv wr => ∃ j : Nat, j ≤ terms.length ∧ iv = .int .i64 j ∧ Hid (RA (terms.drop j) = ra') ∧ Hid (Below w1.heap.size w1 wr)) (fun iv _ => terms.length - (intOf iv).toNat)
    case atStart => exact ⟨0, Nat.zero_le _, by go_num, HRA.out, Below.refl _ _⟩
    case round =>
      obtain ⟨j, hj, rfl, hR, hBw⟩ := hrel
      have HAw := Lib.hid (HA1.out.later hBw.out)
      have HMw := Lib.hid (HM1.out.later hBw.out)
      obtain ⟨d0, d1, d2, d3, d4, d5⟩ := HMw.out.cells
      by_cases hlt : j < terms.length
      · obtain ⟨s, hs⟩ : ∃ s, terms[j]? = some s := ⟨_, List.getElem?_eq_getElem hlt⟩
        have hne : terms ≠ [] := by intro h; rw [h] at hlt; simp at hlt
        obtain ⟨b, off, rfl, hrec⟩ := HAw.out.terms.resolve_left hne
        have c0 := hrec j s hs
        have hjl : (j : Int) < (terms.length : Int) := by omega
        have hd : RA (terms.drop j) = (R s.data.toList && RA (terms.drop (j + 1))) := by
          rw [List.drop_eq_getElem_cons hlt]
          rw [List.getElem?_eq_getElem hlt] at hs
          rw [Option.some.inj hs]
          rfl
        have HD := Lib.hid hd
        have HSZ := Lib.hid (HT.out s (List.mem_of_getElem? hs))
        clear hrec hs hd
        cases hr : R s.data.toList with
        | false =>
          have HRR : Hid (∀ W, Calls Tryd.prog 48 #[.string s] W fun e w' => e = .returned (.bool false) ∧ Below W.heap.size W w') := fun W => by
            have := rright_any s W HSZ.out
            rw [show rightB s.data.toList = false from hr] at this
            exact this
          have HR := Lib.hid hr
          clear hr
          go_wp2_with (go_at_call 48; (with_reducible refine Calls.mono (HRR.out _) ?_); rintro e w2 ⟨rfl, hb2⟩; have HB2 := Lib.hid hb2; clear hb2)
          go_ret
          refine ⟨?_, (HB1.out.trans (hBw.out.mono HB1.out.size)).trans (HB2.out.mono (Nat.le_trans HB1.out.size hBw.out.size))⟩
          have h := hR.out
          rw [HD.out, HR.out, Bool.false_and] at h
          have h2 := HBV2.out
          rw [← h, Bool.and_false] at h2
          rw [← h2]
          rfl
        | true =>
          have HRR : Hid (∀ W, Calls Tryd.prog 48 #[.string s] W fun e w' => e = .returned (.bool true) ∧ Below W.heap.size W w') := fun W => by
            have := rright_any s W HSZ.out
            rw [show rightB s.data.toList = true from hr] at this
            exact this
          have HR := Lib.hid hr
          clear hr
          go_wp2_with (go_at_call 48; (with_reducible refine Calls.mono (HRR.out _) ?_); rintro e w2 ⟨rfl, hb2⟩; have HB2 := Lib.hid hb2; clear hb2)
          go_roundw
          case rel =>
            have h := hR.out
            rw [HD.out, HR.out, Bool.true_and] at h
            first
              | exact ⟨j + 1, by omega, by go_num, h, hBw.out.trans (HB2.out.mono hBw.out.size)⟩
              | ((repeat apply Exists.intro); exact ⟨⟨by omega, by go_num, h, hBw.out.trans (HB2.out.mono hBw.out.size)⟩, rfl⟩)
              | ((repeat apply Exists.intro); exact ⟨⟨j + 1, by omega, by go_num, h, hBw.out.trans (HB2.out.mono hBw.out.size)⟩, rfl⟩)
          case measure => simp [intOf]; omega
      · obtain rfl : j = terms.length := by omega
        have hra : ra' = true := by
          have h := hR.out
          rw [List.drop_length] at h
          rw [← h]; rfl
        have hbv3 := HBV2.out
        rw [hra] at hbv3
        have HBV3 := Lib.hid hbv3
        clear hbv3 hra
        go_wp2_with (first
          | (go_at_call 32; (with_reducible refine Calls.mono (HS.out _ HAw.out.more) ?_); rintro e w3 ⟨v3, rfl, hv3, hb3⟩; obtain ⟨g0, g1, g2, g3, g4, g5⟩ := (HMw.out.later hb3).cells; have HA3 := Lib.hid (HAw.out.later hb3); have HB3 := Lib.hid ((HB1.out.trans (hBw.out.mono HB1.out.size)).trans (hb3.mono (Nat.le_trans HB1.out.size hBw.out.size))); clear hb3 hv3)
          | (go_at_call 49; (with_reducible refine Calls.mono (HU.out _ HA3.out.more) ?_); rintro e w4 ⟨rfl, hb4⟩; have HB4 := Lib.hid (HB3.out.trans (hb4.mono HB3.out.size)); clear hb4))
        all_goals go_ret
        all_goals refine ⟨?_, by first | exact HB4.out | exact HB3.out⟩
        all_goals
          have hf := HBV3.out
          clear HBV2 HBV3 HA HCT HU HS HMC HA0 HB0 HRA HT HA1 HB1 HM1 HAw HMw
          subst hf
          clear d0 d1 d2 d3 d4 d5
          try clear g0 g1 g2 g3 g4 g5
          simp only [Ending.returned.injEq]
        all_goals (try simp_all)
        all_goals (intros; exfalso; first | omega | (simp_all; done) | (simp_all; omega))
end Go.Proofs.YtakfhoodjcfpcaaDoor.T
