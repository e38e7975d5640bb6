/- tlv: Records, walked. -/
import Derived.Calls
import Derived.WalkKit
import Derived.WalkSpells
import Derived.WalkLawsBesides
import Derived.Handy
import Derived.Lib.Hide
import Derived.Deep.AppendLies
import Derived.Deep.LoopGhost
import Derived.Outline
import Derived.Laws.BitsAllLaws
import Derived.Laws.BitsLemmas
import Derived.Lib.AppendZeros
import Derived.Lib.AppendZerosOnto
import Derived.Maps.AppendAt
import Derived.Laws.Append
import Derived.Laws.AppendOwn
import Derived.Deep.QuietTactic
import Derived.BigQuiet
import Derived.Deep.RegionHeld3
import Derived.Test.YtakfhoodjcfpcaaDoorRows
import Derived.Test.YtakfhoodjcfpcaaDoorPl
import Derived.Test.YtakfhoodjcfpcaaDoorTlA
import Derived.Test.YtakfhoodjcfpcaaDoorTlD
import Derived.Test.YtakfhoodjcfpcaaDoorTlF
import Derived.Test.YtakfhoodjcfpcaaDoorTlG
import Derived.Test.YtakfhoodjcfpcaaDoorTlH
import Derived.Test.YtakfhoodjcfpcaaDoorTlI
namespace Go.Proofs.YtakfhoodjcfpcaaDoor.T
open Go.RowKit Tlv

theorem src_lt {w : World} {a : Option Addr} {l : List UInt8} (h : Src w a l) (hl : l ≠ []) {b off : Nat} (e : a = some ⟨b, off, none⟩) : b < w.heap.size := by
  obtain ⟨b', off', e', hc⟩ := h.resolve_left hl
  rw [e] at e'; cases e'
  obtain ⟨c, r, rfl⟩ := List.exists_cons_of_ne_nil hl
  exact World.block_lt_of_cell? w _ (hc 0 c rfl)
theorem own_slice' {w : World} {base n : Nat} {v : Value} {l : List UInt8} (h : Byt w base v l) (hn : l.length = n) : ∃ a c, v = .slice a n c := by
  subst hn; exact own_slice h
theorem own_last {w : World} {base m c0 : Nat} {a0 : Option Addr} {acc : List Rec} {p : Rec} (h : OwnRecs w base (.slice a0 (m + 1) c0) acc) (hm : m + 1 = acc.length) (hp : acc[m]? = some p) : ∃ g, a0 = some ⟨g, 0, none⟩ ∧ w.cell? ⟨g, m * 2, none⟩ = some (.int .u64 (p.t : Int)) := by
  obtain ⟨bs, h1, h2, _⟩ := h
  rcases h2.2 with ⟨h0, _⟩ | ⟨g, cap, cur, hv, hg, hh, hc, hmx, hs, ht⟩
  · cases h0
  · have ha : a0 = some ⟨g, 0, none⟩ := by injection hv
    subst ha
    obtain ⟨x, hx⟩ : ∃ x, bs[m]? = some x := ⟨_, List.getElem?_eq_getElem (by omega)⟩
    have hr := (recCells_at acc bs m p x hp hx).1
    refine ⟨g, rfl, ?_⟩
    rw [cell_of_row w g _ _ _ _ hh]
    have e : (cur.toList.take (acc.length * 2))[m * 2]? = (recCells acc bs)[m * 2]? := by rw [ht]
    rw [List.getElem?_take, if_pos (by omega), Array.getElem?_toList, hr] at e
    exact e
set_option maxRecDepth 100000 in
set_option maxHeartbeats 2000000 in
theorem records_much (a : Option Addr) (cp : Nat) (l : List UInt8) (w : World) (hl : 32768 < l.length) (hm : l.length ≤ maxLen) : Calls Tryd.prog 37 #[.slice a l.length cp] w (RecordsPost l w) := by
  have H : Hid (recordsN l = ([], 3)) := by show _ = _; unfold recordsN; rw [if_pos hl]
  unfold maxLen at hm
  have h64 : (32768 : Int) < (l.length : Int) := by omega
  generalize l.length = n at *
  go_enter Tryd.func37, Tryd.ntmps37
  go_wp2
  go_ret2
  exact records_err 3 H.out rfl (Below.refl _ _)
set_option maxRecDepth 100000 in
set_option maxHeartbeats 8000000 in
theorem records_few (a : Option Addr) (cp : Nat) (l : List UInt8) (w : World) (hl : l.length ≤ 32768) (hcp : l.length ≤ cp) (hcm : cp ≤ maxLen) (hs : Src w a l) (hn : a = none → cp = 0) : Calls Tryd.prog 37 #[.slice a l.length cp] w (RecordsPost l w) := by
  have HS := Lib.hid hs; have HN := Lib.hid hn
  clear hs hn
  obtain ⟨i0, hi0, hz0, hz1, hz2⟩ := info_parts Tryd.info43
  have h64 : ¬ (32768 : Int) < (l.length : Int) := by omega
  have hstart : Hid (recordsN l = recsN (l.length + 1) [] l) := by show _ = _; unfold recordsN; rw [if_neg (by omega)]
  obtain ⟨n0, hn0⟩ : ∃ n0, l.length = n0 := ⟨_, rfl⟩
  have HN0 := Lib.hid hn0
  rw [hn0] at h64 hcp hl hstart ⊢
  clear hn0
  go_enter Tryd.func37, Tryd.ntmps37
  go_wp2
  go_loopw [0, 4] (fun bvv lv wr => ∃ (rest : List UInt8) (acc : List Rec) (a : Option Addr) (cp f m n : Nat) (a0 : Option Addr) (c0 : Nat), bvv = .slice a n cp ∧ Hid (n = rest.length) ∧ n ≤ cp ∧ n ≤ 32768 ∧ cp ≤ maxLen ∧ Hid (Src wr a rest) ∧ Hid (recordsN l = recsN f acc rest) ∧ n < f ∧ lv = .slice a0 m c0 ∧ Hid (m = acc.length) ∧ Hid (OwnRecs wr w.heap.size (.slice a0 m c0) acc) ∧ m ≤ 64 ∧ Hid (Below w.heap.size w wr) ∧ Hid (a = none → cp = 0) ∧ Hid (∀ b off, rest ≠ [] → a = some ⟨b, off, none⟩ → b < w.heap.size)) (fun v _ _ => match v with | .slice _ n _ => n | _ => 0)
  case atStart => exact ⟨l, [], a, cp, _, 0, n0, none, 0, rfl, HN0.out.symm, hcp, hl, hcm, HS.out, hstart.out, Nat.lt_succ_self _, rfl, rfl, ownRecs_nil _ _, by omega, Below.refl _ _, HN.out, fun b off h e => src_lt HS.out h e⟩
  case round =>
    obtain ⟨rest, acc, a, cp, f, m, n, a0, c0, rfl, hn, hncp, hn32, hcpm, hsrc, heq, hf, rfl, hm, hown, hm64, hB, hnil, hlo⟩ := hrel
    have hBs := hB.out.size
    unfold maxLen at hcpm
    by_cases hn0 : n = 0
    · subst hn0
      have H : Hid (recordsN l = (acc, 0)) := by
        have h1 : rest = [] := List.eq_nil_of_length_eq_zero hn.out.symm
        show _ = _
        rw [heq.out, h1]
        obtain ⟨f', rfl⟩ : ∃ f', f = f' + 1 := ⟨f - 1, by omega⟩
        simp [recsN]
      go_wp2
      go_ret2
      exact ⟨.slice a0 m c0, by rw [H.out]; rfl, by rw [H.out]; exact hown.out, hB.out⟩
    · have hpos : (0 : Int) < (n : Int) := by omega
      have hgt := get_any a rest cp wr (by rw [← hn.out]; exact hncp) (by unfold maxLen; omega) hsrc.out
      rw [← hn.out] at hgt
      have HG := Lib.hid hgt
      obtain ⟨f', hf'⟩ : ∃ f', f = f' + 1 := ⟨f - 1, by omega⟩
      have hne : rest ≠ [] := by intro h; have := hn.out; rw [h] at this; simp at this; omega
      have hstep : Hid (recordsN l = recsN (f' + 1) acc rest) := by rw [hf'] at heq; exact heq.out
      clear hgt heq
      obtain ⟨T, K, E, hG⟩ : ∃ T K E, getN rest = (T, K, E) := ⟨_, _, _, rfl⟩
      rw [hG] at HG
      have hsz : E = 0 → 1 ≤ K ∧ K ≤ rest.length ∧ T < 18446744073709551616 := by have := get_size rest; rw [hG] at this; exact this
      by_cases hE : E = 0
      · subst hE
        obtain ⟨hK1, hK2, hT⟩ := hsz rfl
        rw [← hn.out] at hK2
        have HTB := Lib.hid hT
        clear hT hsz
        obtain ⟨b, off, rfl, _⟩ := hsrc.out.resolve_left hne
        obtain ⟨A, hA⟩ : ∃ A, (if cp = K then (some ⟨b, off, none⟩ : Option Addr) else some ⟨b, off + K, none⟩) = A := ⟨_, rfl⟩
        have hsrc2 := Src.drop (k := K) hsrc.out (by rw [← hn.out]; exact hncp)
        rw [hA] at hsrc2
        have hgt2 := get_any A (rest.drop K) (cp - K) wr (by rw [List.length_drop, ← hn.out]; omega) (by unfold maxLen; omega) hsrc2
        rw [List.length_drop, ← hn.out] at hgt2
        have HG2 := Lib.hid hgt2
        clear hgt2 hsrc2
        have hKi : (K : Int) ≤ (n : Int) := by omega
        have hKc : K ≤ cp := by omega
        by_cases hm0 : m = 0
        · have hlast : Hid (lastLe acc T = false) := by
            have : acc = [] := List.eq_nil_of_length_eq_zero (by rw [← hm.out]; exact hm0)
            show _ = _; rw [this]; rfl
          have hmz : decide ((0 : Int) < (m : Int)) = false := by simp; omega
          have hmz' : decide (0 < m) = false := by simp; omega
          have hmn : ¬ (0 < m) := by omega
          have HM0 := Lib.hid hm0
          clear hm0
          have HM := Lib.hid (show m = acc.length from hm.out)
          by_cases hfull : m = 64
          · have H : Hid (recordsN l = ([], 3)) := by
              show _ = _
              rw [hstep.out]
              simp only [recsN, if_neg hne, hG]
              rw [if_neg (by simp), hlast.out, if_neg (by simp), if_pos (by rw [← HM.out]; exact hfull)]
            have hf64 : ((m : Int) == 64) = true := by simp; omega
            go_wp2_with (go_at_call 50; (with_reducible refine Calls.mono HG.out ?_); rintro e w1 ⟨rfl, rfl⟩)
            all_goals (go_ret2; exact records_err 3 H.out rfl hB.out)
          · have hf64 : ((m : Int) == 64) = false := by simp; omega
            obtain ⟨T2, J, E2, hG2⟩ : ∃ T2 J E2, getN (rest.drop K) = (T2, J, E2) := ⟨_, _, _, rfl⟩
            rw [hG2] at HG2
            have hsz2 : E2 = 0 → 1 ≤ J ∧ J ≤ (rest.drop K).length ∧ T2 < 18446744073709551616 := by have := get_size (rest.drop K); rw [hG2] at this; exact this
            by_cases hE2 : E2 = 0
            · subst hE2
              obtain ⟨hJ1, hJ2, hT2⟩ := hsz2 rfl
              clear hT2 hsz2
              rw [List.length_drop, ← hn.out] at hJ2
              have hAe : A = some ⟨b, off + K, none⟩ := by rw [← hA, if_neg (by omega)]
              subst hAe
              clear hA
              obtain ⟨R, hR⟩ : ∃ R, n - (K + J) = R := ⟨_, rfl⟩
              have hRn : R + (K + J) = n := by omega
              have HRN := Lib.hid hRn
              have hkj : K + J ≤ n := by omega
              have hRl : R ≤ 32768 := by omega
              clear hRn
              obtain ⟨o2, hA2⟩ : ∃ o2, (if cp = K + J then (some ⟨b, off, none⟩ : Option Addr) else some ⟨b, off + (K + J), none⟩) = some ⟨b, o2, none⟩ := by
                by_cases h : cp = K + J
                · exact ⟨off, by rw [if_pos h]⟩
                · exact ⟨off + (K + J), by rw [if_neg h]⟩
              have hS2 : Hid (Src wr (some ⟨b, o2, none⟩) ((rest.drop K).drop J)) := by
                have := Src.drop (k := K + J) hsrc.out (by rw [← hn.out]; exact hncp)
                rw [hA2] at this
                rw [List.drop_drop]
                exact this
              have hlenR : ((rest.drop K).drop J).length = R := by rw [List.drop_drop, List.length_drop, ← hn.out]; exact hR
              have HLR := Lib.hid hlenR
              clear hlenR
              have hwR : IntKind.u64.wrap ((R : Nat) : Int) = (R : Int) := by simp only [IntKind.wrap, IntKind.bits, IntKind.signed]; simp; omega
              have q1' : (K : Int) + (J : Int) ≤ (n : Int) := by omega
              have q2' : (0 : Int) ≤ (K : Int) + (J : Int) := by omega
              by_cases hsh : R < T2
              · have H : Hid (recordsN l = ([], 51)) := by
                  show _ = _
                  rw [hstep.out]
                  simp only [recsN, if_neg hne, hG]
                  rw [if_neg (by simp), hlast.out, if_neg (by simp), if_neg (by rw [← HM.out]; exact hfull)]
                  simp only [hG2]
                  rw [if_neg (by simp), if_pos (by rw [HLR.out]; exact hsh)]
                have hshB : decide (R < T2) = true := by simpa using hsh
                have hshI : (R : Int) < (T2 : Int) := by omega
                go_wp2_with (first | (go_at_call 50; (with_reducible refine Calls.mono HG.out ?_); rintro e w1 ⟨rfl, rfl⟩) | (go_at_call 50; (with_reducible refine Calls.mono HG2.out ?_); rintro e w1 ⟨rfl, rfl⟩))
                all_goals (go_ret2; exact records_err 51 H.out rfl hB.out)
              · have H : Hid (recordsN l = recsN f' (acc ++ [⟨T, ((rest.drop K).drop J).take T2⟩]) (((rest.drop K).drop J).drop T2)) := by
                  show _ = _
                  rw [hstep.out]
                  simp only [recsN, if_neg hne, hG]
                  rw [if_neg (by simp), hlast.out, if_neg (by simp), if_neg (by rw [← HM.out]; exact hfull)]
                  simp only [hG2]
                  rw [if_neg (by simp), if_neg (by rw [HLR.out]; exact hsh)]
                have hshB : decide (R < T2) = false := by simpa using hsh
                have hshI : (T2 : Int) ≤ (R : Int) := by omega
                have hT2R : T2 ≤ R := by omega
                have hT2i : (T2 : Int) ≤ (R : Int) := by omega
                obtain ⟨bd, hbd⟩ : ∃ bd, ((rest.drop K).drop J).take T2 = bd := ⟨_, rfl⟩
                have hTl : bd.length = T2 := by rw [← hbd, List.length_take, HLR.out]; omega
                have hSb : Hid (Src wr (some ⟨b, o2, none⟩) bd) := by rw [← hbd]; exact hS2.out.take T2
                rw [hbd] at H
                clear hbd
                have HTL := Lib.hid hTl
                have hcl := fun w' hs => clone_any (some ⟨b, o2, none⟩) (cp - (K + J)) bd w' (by rw [hTl]; omega) hs (fun h => by cases h)
                rw [hTl] at hcl
                have HCL := Lib.hid hcl
                clear hcl hTl
                have hcr : R ≤ cp - (K + J) := by omega
                go_wp2_with (first | (go_at_call 50; (with_reducible refine Calls.mono HG.out ?_); rintro e w1 ⟨rfl, rfl⟩) | (go_at_call 50; (with_reducible refine Calls.mono HG2.out ?_); rintro e w1 ⟨rfl, rfl⟩) | (go_at_call 52; (with_reducible refine Calls.mono (HCL.out _ hSb.out) ?_); rintro e w1 ⟨v1, rfl, hp1, hb1⟩; obtain ⟨q1, t1, rfl⟩ := own_slice' hp1 HTL.out; have HP1 := Lib.hid hp1; have HB1 := Lib.hid hb1; have hown3 := Lib.hid (hown.out.below hb1); have hb1z := hb1.size; clear hp1 hb1) | (at_builtin; refine wpList_append_lies _ rfl _ _ _ rfl w.heap.size 43 i0 _ 2 32 Tryd.underlying25 hi0 hz0 hz1 hz2 rfl (by omega) _ _ _ rfl (hown3.out.choose_spec.2.1.alloc _) ⟨w1.heap.size, 0, none⟩ 1 1 [.int .u64 (T : Int), .slice q1 T2 t1] rfl rfl (World.news_of_block (cs := #[.int .u64 (T : Int), .slice q1 T2 t1]) (t := 43) (fr := (0, 0)) (heap_alloc_at w1 _)) (by simp [Value.oneCell']) (by omega) (by rw [← hm.out]; unfold maxLen; omega) (by rw [← hm.out]; omega) (by simp; omega) (w1.heap.size + 1) (by simp) ?_; intro g2 cap2 w2 hown2 hgrow2 hat2 hlt2; have HO2 := Lib.hid hown2; have HG3 := Lib.hid hgrow2; have HA2 := Lib.hid hat2; clear hown2 hgrow2 hat2))
                have hbw : b < w.heap.size := hlo.out b off hne rfl
                go_roundw
                case rel =>
                  have hrow := fun (g : Nat) (hg : (Value.slice a0 m c0).ownBlock = some g) => (hown3.out.choose_spec.2.1.lt g hg).1
                  refine ⟨((rest.drop K).drop J).drop T2, acc ++ [⟨T, bd⟩], _, _, f', _, _, _, _, rfl, ?_, ?_, ?_, ?_, ?_, Lib.hid H.out, ?_, rfl, ?_, Lib.hid (OwnRecs.snoc hown3.out (byt_base HP1.out hBs) HTL.out HTB.out HG3.out HO2.out), ?_, ?_, ?_, ?_⟩
                  · show _ = _
                    rw [List.length_drop, HLR.out]
                  · omega
                  · omega
                  · unfold maxLen; omega
                  · have h1 := (Src.drop (k := T2) hS2.out (by rw [HLR.out]; exact hcr)).below HB1.out
                    have h2 := h1.below (below_new w1 (.cells #[.int .u64 (T : Int), .slice q1 T2 t1] 43))
                    exact Src.grown (B := w.heap.size) h2 HG3.out hrow (fun b' off' e => by split at e <;> (cases e; exact hbw))
                  · have := HRN.out; omega
                  · simp [Hid]
                  · have := HM.out; omega
                  · have h1 := hB.out.trans (HB1.out.mono hBs)
                    exact (h1.alloc h1.size _).grown HG3.out (by have := h1.size; simp; omega) hrow
                  · intro e; split at e <;> cases e
                  · intro b' off' _ e
                    split at e <;> (cases e; exact hbw)
                case measure => have := HRN.out; simp; omega
            · have hE21 : ((E2 : Int) != 0) = true := by simp; omega
              have H : Hid (recordsN l = ([], E2)) := by
                show _ = _
                rw [hstep.out]
                simp only [recsN, if_neg hne, hG]
                rw [if_neg (by simp), hlast.out, if_neg (by simp), if_neg (by rw [← HM.out]; exact hfull)]
                simp only [hG2]
                rw [if_pos hE2]
              clear hsz2
              go_wp2_with (first | (go_at_call 50; (with_reducible refine Calls.mono HG.out ?_); rintro e w1 ⟨rfl, rfl⟩) | (go_at_call 50; (with_reducible refine Calls.mono HG2.out ?_); rintro e w1 ⟨rfl, rfl⟩))
              all_goals (go_ret2; exact records_err E2 H.out rfl hB.out)
        · obtain ⟨m', rfl⟩ : ∃ m', m = m' + 1 := ⟨m - 1, by omega⟩
          obtain ⟨p, hp⟩ : ∃ p, acc[m']? = some p := ⟨_, List.getElem?_eq_getElem (by have := hm.out; omega)⟩
          obtain ⟨g, rfl, hcg⟩ := own_last hown.out hm.out hp
          have hll : Hid (lastLe acc T = decide (T ≤ p.t)) := by
            show _ = _
            have e : acc.getLast? = some p := by rw [List.getLast?_eq_getElem?, show acc.length - 1 = m' by have := hm.out; omega]; exact hp
            simp only [lastLe, e]
          obtain ⟨P, hP⟩ : ∃ P, p.t = P := ⟨_, rfl⟩
          rw [hP] at hcg hll
          clear hp hP hm0
          have w1 : (0 : Int) < (m' : Int) + 1 := by omega
          have w3 : (m' : Int) < (m' : Int) + 1 := by omega
          by_cases hTP : T ≤ P
          · have H : Hid (recordsN l = ([], 50)) := by
              show _ = _
              rw [hstep.out]
              simp only [recsN, if_neg hne, hG]
              rw [if_neg (by simp), hll.out, if_pos (by simpa using hTP)]
            have hb1 : decide (T ≤ P) = true := by simpa using hTP
            have hb2 : (T : Int) ≤ (P : Int) := by omega
            go_wp2_with (go_at_call 50; (with_reducible refine Calls.mono HG.out ?_); rintro e w1 ⟨rfl, rfl⟩)
            all_goals (go_ret2; exact records_err 50 H.out rfl hB.out)
          · have hlast : Hid (lastLe acc T = false) := by show _ = _; rw [hll.out]; simpa using hTP
            have hb1 : decide (T ≤ P) = false := by simpa using hTP
            have hb2 : (P : Int) < (T : Int) := by omega
            have HM := Lib.hid (show m' + 1 = acc.length from hm.out)
            by_cases hfull : m' + 1 = 64
            · have H : Hid (recordsN l = ([], 3)) := by
                show _ = _
                rw [hstep.out]
                simp only [recsN, if_neg hne, hG]
                rw [if_neg (by simp), hlast.out, if_neg (by simp), if_pos (by rw [← HM.out]; exact hfull)]
              have hf64 : ((m' : Int) + 1 == 64) = true := by simp; omega
              clear hfull
              go_wp2_with (go_at_call 50; (with_reducible refine Calls.mono HG.out ?_); rintro e w1 ⟨rfl, rfl⟩)
              all_goals (go_ret2; exact records_err 3 H.out rfl hB.out)
            · have hf64 : ((m' : Int) + 1 == 64) = false := by simp; omega
              obtain ⟨T2, J, E2, hG2⟩ : ∃ T2 J E2, getN (rest.drop K) = (T2, J, E2) := ⟨_, _, _, rfl⟩
              rw [hG2] at HG2
              have hsz2 : E2 = 0 → 1 ≤ J ∧ J ≤ (rest.drop K).length ∧ T2 < 18446744073709551616 := by have := get_size (rest.drop K); rw [hG2] at this; exact this
              by_cases hE2 : E2 = 0
              · subst hE2
                obtain ⟨hJ1, hJ2, hT2⟩ := hsz2 rfl
                clear hT2 hsz2
                rw [List.length_drop, ← hn.out] at hJ2
                have hAe : A = some ⟨b, off + K, none⟩ := by rw [← hA, if_neg (by omega)]
                subst hAe
                clear hA
                obtain ⟨R, hR⟩ : ∃ R, n - (K + J) = R := ⟨_, rfl⟩
                have hRn : R + (K + J) = n := by omega
                have HRN := Lib.hid hRn
                have hkj : K + J ≤ n := by omega
                have hRl : R ≤ 32768 := by omega
                clear hRn
                obtain ⟨o2, hA2⟩ : ∃ o2, (if cp = K + J then (some ⟨b, off, none⟩ : Option Addr) else some ⟨b, off + (K + J), none⟩) = some ⟨b, o2, none⟩ := by
                  by_cases h : cp = K + J
                  · exact ⟨off, by rw [if_pos h]⟩
                  · exact ⟨off + (K + J), by rw [if_neg h]⟩
                have hS2 : Hid (Src wr (some ⟨b, o2, none⟩) ((rest.drop K).drop J)) := by
                  have := Src.drop (k := K + J) hsrc.out (by rw [← hn.out]; exact hncp)
                  rw [hA2] at this
                  rw [List.drop_drop]
                  exact this
                have hlenR : ((rest.drop K).drop J).length = R := by rw [List.drop_drop, List.length_drop, ← hn.out]; exact hR
                have HLR := Lib.hid hlenR
                clear hlenR
                have hwR : IntKind.u64.wrap ((R : Nat) : Int) = (R : Int) := by simp only [IntKind.wrap, IntKind.bits, IntKind.signed]; simp; omega
                have q1' : (K : Int) + (J : Int) ≤ (n : Int) := by omega
                have q2' : (0 : Int) ≤ (K : Int) + (J : Int) := by omega
                by_cases hsh : R < T2
                · have H : Hid (recordsN l = ([], 51)) := by
                    show _ = _
                    rw [hstep.out]
                    simp only [recsN, if_neg hne, hG]
                    rw [if_neg (by simp), hlast.out, if_neg (by simp), if_neg (by rw [← HM.out]; exact hfull)]
                    simp only [hG2]
                    rw [if_neg (by simp), if_pos (by rw [HLR.out]; exact hsh)]
                  have hshB : decide (R < T2) = true := by simpa using hsh
                  have hshI : (R : Int) < (T2 : Int) := by omega
                  go_wp2_with (first | (go_at_call 50; (with_reducible refine Calls.mono HG.out ?_); rintro e w1 ⟨rfl, rfl⟩) | (go_at_call 50; (with_reducible refine Calls.mono HG2.out ?_); rintro e w1 ⟨rfl, rfl⟩))
                  all_goals (go_ret2; exact records_err 51 H.out rfl hB.out)
                · have H : Hid (recordsN l = recsN f' (acc ++ [⟨T, ((rest.drop K).drop J).take T2⟩]) (((rest.drop K).drop J).drop T2)) := by
                    show _ = _
                    rw [hstep.out]
                    simp only [recsN, if_neg hne, hG]
                    rw [if_neg (by simp), hlast.out, if_neg (by simp), if_neg (by rw [← HM.out]; exact hfull)]
                    simp only [hG2]
                    rw [if_neg (by simp), if_neg (by rw [HLR.out]; exact hsh)]
                  have hshB : decide (R < T2) = false := by simpa using hsh
                  have hshI : (T2 : Int) ≤ (R : Int) := by omega
                  have hT2R : T2 ≤ R := by omega
                  have hT2i : (T2 : Int) ≤ (R : Int) := by omega
                  obtain ⟨bd, hbd⟩ : ∃ bd, ((rest.drop K).drop J).take T2 = bd := ⟨_, rfl⟩
                  have hTl : bd.length = T2 := by rw [← hbd, List.length_take, HLR.out]; omega
                  have hSb : Hid (Src wr (some ⟨b, o2, none⟩) bd) := by rw [← hbd]; exact hS2.out.take T2
                  rw [hbd] at H
                  clear hbd
                  have HTL := Lib.hid hTl
                  have hcl := fun w' hs => clone_any (some ⟨b, o2, none⟩) (cp - (K + J)) bd w' (by rw [hTl]; omega) hs (fun h => by cases h)
                  rw [hTl] at hcl
                  have HCL := Lib.hid hcl
                  clear hcl hTl
                  have hcr : R ≤ cp - (K + J) := by omega
                  go_wp2_with (first | (go_at_call 50; (with_reducible refine Calls.mono HG.out ?_); rintro e w1 ⟨rfl, rfl⟩) | (go_at_call 50; (with_reducible refine Calls.mono HG2.out ?_); rintro e w1 ⟨rfl, rfl⟩) | (go_at_call 52; (with_reducible refine Calls.mono (HCL.out _ hSb.out) ?_); rintro e w1 ⟨v1, rfl, hp1, hb1⟩; obtain ⟨q1, t1, rfl⟩ := own_slice' hp1 HTL.out; have HP1 := Lib.hid hp1; have HB1 := Lib.hid hb1; have hown3 := Lib.hid (hown.out.below hb1); have hb1z := hb1.size; clear hp1 hb1) | (at_builtin; refine wpList_append_lies _ rfl _ _ _ rfl w.heap.size 43 i0 _ 2 32 Tryd.underlying25 hi0 hz0 hz1 hz2 rfl (by omega) _ _ _ rfl (hown3.out.choose_spec.2.1.alloc _) ⟨w1.heap.size, 0, none⟩ 1 1 [.int .u64 (T : Int), .slice q1 T2 t1] rfl rfl (World.news_of_block (cs := #[.int .u64 (T : Int), .slice q1 T2 t1]) (t := 43) (fr := (0, 0)) (heap_alloc_at w1 _)) (by simp [Value.oneCell']) (by omega) (by rw [← hm.out]; unfold maxLen; omega) (by rw [← hm.out]; omega) (by simp; omega) (w1.heap.size + 1) (by simp) ?_; intro g2 cap2 w2 hown2 hgrow2 hat2 hlt2; have HO2 := Lib.hid hown2; have HG3 := Lib.hid hgrow2; have HA2 := Lib.hid hat2; clear hown2 hgrow2 hat2))
                  have hbw : b < w.heap.size := hlo.out b off hne rfl
                  go_roundw
                  case rel =>
                    have hrow := fun (gg : Nat) (hg : (Value.slice (some ⟨g, 0, none⟩) (m' + 1) c0).ownBlock = some gg) => (hown3.out.choose_spec.2.1.lt gg hg).1
                    refine ⟨((rest.drop K).drop J).drop T2, acc ++ [⟨T, bd⟩], _, _, f', _, _, _, _, rfl, ?_, ?_, ?_, ?_, ?_, Lib.hid H.out, ?_, rfl, ?_, Lib.hid (OwnRecs.snoc hown3.out (byt_base HP1.out hBs) HTL.out HTB.out HG3.out HO2.out), ?_, ?_, ?_, ?_⟩
                    · show _ = _
                      rw [List.length_drop, HLR.out]
                    · omega
                    · omega
                    · unfold maxLen; omega
                    · have h1 := (Src.drop (k := T2) hS2.out (by rw [HLR.out]; exact hcr)).below HB1.out
                      have h2 := h1.below (below_new w1 (.cells #[.int .u64 (T : Int), .slice q1 T2 t1] 43))
                      exact Src.grown (B := w.heap.size) h2 HG3.out hrow (fun b' off' e => by split at e <;> (cases e; exact hbw))
                    · have := HRN.out; omega
                    · simp [Hid]
                    · have := HM.out; omega
                    · have h1 := hB.out.trans (HB1.out.mono hBs)
                      exact (h1.alloc h1.size _).grown HG3.out (by have := h1.size; simp; omega) hrow
                    · intro e; split at e <;> cases e
                    · intro b' off' _ e
                      split at e <;> (cases e; exact hbw)
                  case measure => have := HRN.out; simp; omega
              · have hE21 : ((E2 : Int) != 0) = true := by simp; omega
                have H : Hid (recordsN l = ([], E2)) := by
                  show _ = _
                  rw [hstep.out]
                  simp only [recsN, if_neg hne, hG]
                  rw [if_neg (by simp), hlast.out, if_neg (by simp), if_neg (by rw [← HM.out]; exact hfull)]
                  simp only [hG2]
                  rw [if_pos hE2]
                clear hsz2
                go_wp2_with (first | (go_at_call 50; (with_reducible refine Calls.mono HG.out ?_); rintro e w1 ⟨rfl, rfl⟩) | (go_at_call 50; (with_reducible refine Calls.mono HG2.out ?_); rintro e w1 ⟨rfl, rfl⟩))
                all_goals (go_ret2; exact records_err E2 H.out rfl hB.out)
      · have hE1 : ((E : Int) != 0) = true := by simp; omega
        have H : Hid (recordsN l = ([], E)) := by
          show _ = _
          rw [hstep.out]
          simp only [recsN, if_neg hne, hG]
          rw [if_pos hE]
        clear hsz
        go_wp2_with (go_at_call 50; (with_reducible refine Calls.mono HG.out ?_); rintro e w1 ⟨rfl, rfl⟩)
        go_ret2
        exact records_err E H.out rfl hB.out
theorem records_any (a : Option Addr) (cp : Nat) (l : List UInt8) (w : World) (hcp : l.length ≤ cp) (hcm : cp ≤ maxLen) (hs : Src w a l) (hn : a = none → cp = 0) : Calls Tryd.prog 37 #[.slice a l.length cp] w (RecordsPost l w) := by
  by_cases h : 32768 < l.length
  · exact records_much a cp l w h (by omega)
  · exact records_few a cp l w (by omega) hcp hcm hs hn
end Go.Proofs.YtakfhoodjcfpcaaDoor.T
