/- tlv: the document's Records, walked. -/
import Derived.Test.YtakfhoodjcfpcaaDoorTlQ
namespace Go.Proofs.YtakfhoodjcfpcaaDoor.T
open Go.RowKit Tlv
theorem wpList_app' {ops : Array Oper} {rest : List Oper} {o : Oper} {a : Act} {w : World} {Q : Exit → Act → World → Prop} (hgd : o.guard = none) (s x : Operand)
    (ho : o.op = .call { callee := .builtin .append, args := #[s, x], argTypes := #[33, 33] }) (base : Nat) (v : Value) (n : Nat) (xs : List Value) (hsv : a.eval s = v) (hown : w.ownsRow base 5 1 v n xs)
    (ad : Option Addr) (l : List UInt8) (m : Nat) (hlm : l.length = m) (c : Nat) (hx : a.eval x = .slice ad m c) (hs : Src w ad l) (hn : n + m ≤ 140737488355328) (hbase : base ≤ w.heap.size)
    (h : ∀ v' w', w'.ownsRow base 5 1 v' (n + l.length) (xs ++ l.map bv) → w.grownBy w' v.ownBlock → (v'.ownBlock = v.ownBlock ∨ v'.ownBlock = some w.heap.size) → wpList Tryd.prog ops Q rest (a.put o.dst v') w') : wpList Tryd.prog ops Q (o :: rest) a w := by
  subst hlm
  exact wpList_app hgd s x ho base v n xs hsv hown ad l c hx hs hn hbase h
theorem getr_at (a : Option Addr) (l : List UInt8) (n cp T K E : Nat) (hn : l.length = n) (hG : getN l = (T, K, E)) (w : World) (hl : n ≤ cp) (hcp : cp ≤ maxLen) (hs : Src w a l) : Calls Tryd.prog 54 #[.slice a n cp] w fun e w' => e = .returned (.tuple #[.int .u64 (T : Int), .int .i64 (K : Int), .int .i64 (E : Int)]) ∧ Below w.heap.size w w' := by
  subst hn
  have h := getr_any a l cp w hl hcp hs
  rw [hG] at h
  exact h
set_option maxRecDepth 100000 in
set_option maxHeartbeats 2000000 in
theorem recordsr_much (a : Option Addr) (cp : Nat) (l : List UInt8) (w : World) (hl : 32768 < l.length) (hm : l.length ≤ maxLen) : Calls Tryd.prog 41 #[.slice a l.length cp] w (RecordsPost l w) := by
  have H : Hid (recordsN l = ([], 3)) := by show _ = _; unfold recordsN; rw [if_pos hl]
  unfold maxLen at hm
  have h64 : (32768 : Int) < (l.length : Int) := by omega
  generalize l.length = n at *
  go_enter Tryd.func41, Tryd.ntmps41
  go_wp2
  go_ret2
  exact records_err 3 H.out rfl (Below.refl _ _)
set_option maxRecDepth 100000 in
set_option maxHeartbeats 8000000 in
theorem recordsr_few (a : Option Addr) (cp : Nat) (l : List UInt8) (w : World) (hl : l.length ≤ 32768) (hcp : l.length ≤ cp) (hcm : cp ≤ maxLen) (hs : Src w a l) (hn : a = none → cp = 0) : Calls Tryd.prog 41 #[.slice a l.length cp] w (RecordsPost l w) := by
  have HS := Lib.hid hs; have HN := Lib.hid hn
  clear hs hn
  obtain ⟨i0, hi0, hz0, hz1, hz2⟩ := info_parts Tryd.info43
  have h64 : ¬ (32768 : Int) < (l.length : Int) := by omega
  have hstart : Hid (recordsN l = recsN (l.length + 1) [] l) := by show _ = _; unfold recordsN; rw [if_neg (by omega)]
  obtain ⟨n0, hn0⟩ : ∃ n0, l.length = n0 := ⟨_, rfl⟩
  have HN0 := Lib.hid hn0
  rw [hn0] at h64 hcp hl hstart ⊢
  clear hn0
  go_enter Tryd.func41, Tryd.ntmps41
  go_wp2
  go_loopw [0, 4] (fun bvv lv wr => ∃ (rest : List UInt8) (acc : List Rec) (a : Option Addr) (cp f m n : Nat) (a0 : Option Addr) (c0 : Nat), bvv = .slice a n cp ∧ Hid (n = rest.length) ∧ n ≤ cp ∧ n ≤ 32768 ∧ cp ≤ maxLen ∧ Hid (Src wr a rest) ∧ Hid (recordsN l = recsN f acc rest) ∧ n < f ∧ lv = .slice a0 m c0 ∧ Hid (m = acc.length) ∧ Hid (OwnRecs wr w.heap.size (.slice a0 m c0) acc) ∧ m ≤ 64 ∧ Hid (Below w.heap.size w wr) ∧ Hid (a = none → cp = 0) ∧ Hid (∀ b off, rest ≠ [] → a = some ⟨b, off, none⟩ → b < w.heap.size)) (fun v _ _ => match v with | .slice _ n _ => n | _ => 0)
  case atStart => exact ⟨l, [], a, cp, _, 0, n0, none, 0, rfl, HN0.out.symm, hcp, hl, hcm, HS.out, hstart.out, Nat.lt_succ_self _, rfl, rfl, ownRecs_nil _ _, by omega, Below.refl _ _, HN.out, fun b off h e => src_lt HS.out h e⟩
  case round =>
    obtain ⟨rest, acc, a, cp, f, m, n, a0, c0, rfl, hn, hncp, hn32, hcpm, hsrc, heq, hf, rfl, hm, hown, hm64, hB, hnil, hlo⟩ := hrel
    have hBs := hB.out.size
    by_cases hn0 : n = 0
    · subst hn0
      have H : Hid (recordsN l = (acc, 0)) := by
        have h1 : rest = [] := List.eq_nil_of_length_eq_zero hn.out.symm
        show _ = _
        rw [heq.out, h1]
        obtain ⟨f', rfl⟩ : ∃ f', f = f' + 1 := ⟨f - 1, by omega⟩
        simp [recsN]
      go_wp2
      go_ret2
      exact ⟨.slice a0 m c0, by rw [H.out]; rfl, by rw [H.out]; exact hown.out, hB.out⟩
    · have hpos : (0 : Int) < (n : Int) := by omega
      obtain ⟨f', hf'⟩ : ∃ f', f = f' + 1 := ⟨f - 1, by omega⟩
      have hne : rest ≠ [] := by intro h; have := hn.out; rw [h] at this; simp at this; omega
      have hstep : Hid (recordsN l = recsN (f' + 1) acc rest) := by rw [hf'] at heq; exact heq.out
      clear heq
      obtain ⟨T, K, E, hG⟩ : ∃ T K E, getN rest = (T, K, E) := ⟨_, _, _, rfl⟩
      have HG : Hid (Calls Tryd.prog 54 #[.slice a n cp] wr _) := getr_at a rest n cp T K E hn.out.symm hG wr hncp hcpm hsrc.out
      have hsz : E = 0 → 1 ≤ K ∧ K ≤ rest.length ∧ T < 18446744073709551616 := by have := get_size rest; rw [hG] at this; exact this
      by_cases hE : E = 0
      · subst hE
        obtain ⟨hK1, hK2, hT⟩ := hsz rfl
        rw [← hn.out] at hK2
        have HTB := Lib.hid hT
        clear hT hsz
        obtain ⟨b, off, rfl, _⟩ := hsrc.out.resolve_left hne
        have hKi : (K : Int) ≤ (n : Int) := by omega
        have hKc : K ≤ cp := by omega
        have hbw : Hid (b < w.heap.size) := hlo.out b off hne rfl
        obtain ⟨A, hA⟩ : ∃ A, (if cp = K then (some ⟨b, off, none⟩ : Option Addr) else some ⟨b, off + K, none⟩) = A := ⟨_, rfl⟩
        have HS1 : Hid (∀ w', Below wr.heap.size wr w' → Src w' A (rest.drop K)) := fun w' h => by
          have := Src.drop (k := K) (hsrc.out.below h) (by rw [← hn.out]; exact hncp)
          rw [hA] at this; exact this
        have hlen1 : Hid ((rest.drop K).length = n - K) := by show _ = _; rw [List.length_drop, ← hn.out]
        obtain ⟨n1, hn1⟩ : ∃ n1, n - K = n1 := ⟨_, rfl⟩
        obtain ⟨cp1, hcp1⟩ : ∃ cp1, cp - K = cp1 := ⟨_, rfl⟩
        obtain ⟨T2, J, E2, hG2⟩ : ∃ T2 J E2, getN (rest.drop K) = (T2, J, E2) := ⟨_, _, _, rfl⟩
        have HG2 : Hid (∀ w', Below wr.heap.size wr w' → Calls Tryd.prog 54 #[.slice A n1 cp1] w' _) := fun w' h => getr_at A (rest.drop K) n1 cp1 T2 J E2 (by rw [hlen1.out]; exact hn1) hG2 w' (by omega) (by omega) (HS1.out w' h)
        have hsz2 : E2 = 0 → 1 ≤ J ∧ J ≤ (rest.drop K).length ∧ T2 < 18446744073709551616 := by have := get_size (rest.drop K); rw [hG2] at this; exact this
        unfold maxLen at hcpm
        by_cases hm0 : m = 0
        · have hlast : Hid (lastLe acc T = false) := by
            have : acc = [] := List.eq_nil_of_length_eq_zero (by rw [← hm.out]; exact hm0)
            show _ = _; rw [this]; rfl
          have hmz : decide ((0 : Int) < (m : Int)) = false := by simp; omega
          have hmz' : decide (0 < m) = false := by simp; omega
          have hmn : ¬ (0 < m) := by omega
          have HM0 := Lib.hid hm0
          clear hm0
          have HM := Lib.hid (show m = acc.length from hm.out)
          have hf64 : ((m : Int) == 64) = false := by have := HM0.out; simp; omega
          have hnfull : Hid (acc.length ≠ 64) := by show _ ≠ _; rw [← HM.out, HM0.out]; omega
          by_cases hE2 : E2 = 0
          · subst hE2
            obtain ⟨hJ1, hJ2, hT2⟩ := hsz2 rfl
            clear hT2 hsz2
            rw [hlen1.out, hn1] at hJ2
            have hAe : A = some ⟨b, off + K, none⟩ := by rw [← hA, if_neg (by omega)]
            subst hAe
            obtain ⟨o2, hA2⟩ : ∃ o2, (if cp1 = J then (some ⟨b, off + K, none⟩ : Option Addr) else some ⟨b, off + K + J, none⟩) = some ⟨b, o2, none⟩ := by
              by_cases h : cp1 = J
              · exact ⟨off + K, by rw [if_pos h]⟩
              · exact ⟨off + K + J, by rw [if_neg h]⟩
            have HS2 : Hid (∀ w', Below wr.heap.size wr w' → Src w' (some ⟨b, o2, none⟩) ((rest.drop K).drop J)) := fun w' h => by
              have := Src.drop (k := J) (cp := cp1) (HS1.out w' h) (by rw [hlen1.out]; omega)
              rw [hA2] at this; exact this
            obtain ⟨R, hR⟩ : ∃ R, n1 - J = R := ⟨_, rfl⟩
            obtain ⟨cp2, hcp2⟩ : ∃ cp2, cp1 - J = cp2 := ⟨_, rfl⟩
            have hR0 : Hid (R + J + K = n) := by show _ = _; omega
            have hlen2 : Hid (((rest.drop K).drop J).length = R) := by show _ = _; rw [List.length_drop, hlen1.out]; omega
            have hwR : IntKind.u64.wrap ((R : Nat) : Int) = (R : Int) := by simp only [IntKind.wrap, IntKind.bits, IntKind.signed]; simp; omega
            have hJi : (J : Int) ≤ (n1 : Int) := by omega
            have hJc : J ≤ cp1 := by omega
            have hR3 : R ≤ 32768 := by omega
            have hRc : R ≤ cp2 := by omega
            have hc2 : Hid (cp2 ≤ 9223372036854775807) := by show _ ≤ _; omega
            by_cases hsh : R < T2
            · have H : Hid (recordsN l = ([], 51)) := by
                show _ = _
                rw [hstep.out]
                simp only [recsN, if_neg hne, hG]
                rw [if_neg (by simp), hlast.out, if_neg (by simp), if_neg hnfull.out]
                simp only [hG2]
                rw [if_neg (by simp), if_pos (by rw [hlen2.out]; exact hsh)]
              have hshB : decide (R < T2) = true := by simpa using hsh
              have hshI : (R : Int) < (T2 : Int) := by omega
              go_wp2_with (first | (go_at_call 54; (with_reducible refine Calls.mono HG.out ?_); rintro e w1 ⟨rfl, hb1⟩; have HB1 := Lib.hid hb1; have HG2w := Lib.hid (HG2.out w1 hb1); clear hb1) | (go_at_call 54; (with_reducible refine Calls.mono HG2w.out ?_); rintro e w2 ⟨rfl, hb2⟩; have HB2 := Lib.hid (HB1.out.trans (hb2.mono HB1.out.size)); clear hb2))
              all_goals (go_ret2; exact records_err 51 H.out rfl (hB.out.trans (HB2.out.mono hBs)))
            · have H : Hid (recordsN l = recsN f' (acc ++ [⟨T, ((rest.drop K).drop J).take T2⟩]) (((rest.drop K).drop J).drop T2)) := by
                show _ = _
                rw [hstep.out]
                simp only [recsN, if_neg hne, hG]
                rw [if_neg (by simp), hlast.out, if_neg (by simp), if_neg hnfull.out]
                simp only [hG2]
                rw [if_neg (by simp), if_neg (by rw [hlen2.out]; exact hsh)]
              have hshB : decide (R < T2) = false := by simpa using hsh
              have hshI : (T2 : Int) ≤ (R : Int) := by omega
              have hT2R : T2 ≤ R := by omega
              obtain ⟨bd, hbd⟩ : ∃ bd, ((rest.drop K).drop J).take T2 = bd := ⟨_, rfl⟩
              have hTl : bd.length = T2 := by rw [← hbd, List.length_take, hlen2.out]; omega
              have HSb : Hid (∀ w', Below wr.heap.size wr w' → Src w' (some ⟨b, o2, none⟩) bd) := fun w' h => by rw [← hbd]; exact (HS2.out w' h).take T2
              rw [hbd] at H
              clear hbd
              have HTL := Lib.hid hTl
              clear hTl
              go_wp2_with (first
                | (go_at_call 54; (with_reducible refine Calls.mono HG.out ?_); rintro e w1 ⟨rfl, hb1⟩; have HB1 := Lib.hid hb1; have HG2w := Lib.hid (HG2.out w1 hb1); clear hb1)
                | (go_at_call 54; (with_reducible refine Calls.mono HG2w.out ?_); rintro e w2 ⟨rfl, hb2⟩; have HB2 := Lib.hid (HB1.out.trans (hb2.mono HB1.out.size)); clear hb2)
                | (at_builtin; refine wpList_app' rfl _ _ rfl w2.heap.size (.slice none 0 0) 0 [] rfl (World.ownsRow_nil _ _ _ _) (some ⟨b, o2, none⟩) bd T2 HTL.out cp2 rfl (HSb.out _ HB2.out) (by omega) (Nat.le_refl _) ?_; intro v3 w3 ho3 hg3 ha3; have hb3 := below_grown hg3 rfl; have HB3 := Lib.hid (HB2.out.trans (hb3.mono HB2.out.size)); have HP3 : Hid (Byt w3 w2.heap.size v3 bd) := byt_of' ho3 rfl; obtain ⟨q1, t1, rfl⟩ := own_slice' HP3.out HTL.out; have hown3 := Lib.hid (hown.out.below HB3.out); have hb3z := HB3.out.size; have hb2z := HB2.out.size; clear ho3 hg3 ha3 hb3)
                | (at_builtin; refine wpList_append_lies _ rfl _ _ _ rfl w.heap.size 43 i0 _ 2 32 Tryd.underlying25 hi0 hz0 hz1 hz2 rfl (by omega) _ _ _ rfl (hown3.out.choose_spec.2.1.alloc _) ⟨w3.heap.size, 0, none⟩ 1 1 [.int .u64 (T : Int), .slice q1 T2 t1] rfl rfl (World.news_of_block (cs := #[.int .u64 (T : Int), .slice q1 T2 t1]) (t := 43) (fr := (0, 0)) (heap_alloc_at w3 _)) (by simp [Value.oneCell']) (by omega) (by rw [← hm.out]; unfold maxLen; omega) (by rw [← hm.out]; omega) (by simp; omega) (w3.heap.size + 1) (by simp) ?_; intro g2 cap2 w4 hown2 hgrow2 hat2 hlt2; have HO2 := Lib.hid hown2; have HG3 := Lib.hid hgrow2; clear hown2 hgrow2 hat2 hlt2))
              go_roundw
              case rel =>
                have hrow := fun (g : Nat) (hg : (Value.slice a0 m c0).ownBlock = some g) => (hown3.out.choose_spec.2.1.lt g hg).1
                refine ⟨((rest.drop K).drop J).drop T2, acc ++ [⟨T, bd⟩], _, _, f', _, _, _, _, rfl, ?_, ?_, ?_, ?_, ?_, Lib.hid H.out, ?_, rfl, ?_, Lib.hid (OwnRecs.snoc hown3.out (byt_base HP3.out (Nat.le_trans hBs hb2z)) HTL.out HTB.out HG3.out HO2.out), ?_, ?_, ?_, ?_⟩
                · show _ = _
                  rw [List.length_drop, hlen2.out]
                · omega
                · omega
                · have := hc2.out; unfold maxLen; omega
                · have h1 := (Src.drop (k := T2) (cp := cp2) (HS2.out _ HB3.out) (by rw [hlen2.out]; exact hRc))
                  have h2 := h1.below (below_new w3 (.cells #[.int .u64 (T : Int), .slice q1 T2 t1] 43))
                  exact Src.grown (B := w.heap.size) h2 HG3.out hrow (fun b' off' e => by split at e <;> (cases e; exact hbw.out))
                · have := hR0.out; omega
                · simp [Hid]
                · have := HM.out; have := hnfull.out; omega
                · have h1 := hB.out.trans (HB3.out.mono hBs)
                  exact (h1.alloc h1.size _).grown HG3.out (by have := h1.size; simp; omega) hrow
                · intro e; split at e <;> cases e
                · intro b' off' _ e
                  split at e <;> (cases e; exact hbw.out)
              case measure => have := hR0.out; simp; omega
          · have hE21 : ((E2 : Int) != 0) = true := by simp; omega
            have H : Hid (recordsN l = ([], E2)) := by
              show _ = _
              rw [hstep.out]
              simp only [recsN, if_neg hne, hG]
              rw [if_neg (by simp), hlast.out, if_neg (by simp), if_neg hnfull.out]
              simp only [hG2]
              rw [if_pos hE2]
            clear hsz2
            go_wp2_with (first | (go_at_call 54; (with_reducible refine Calls.mono HG.out ?_); rintro e w1 ⟨rfl, hb1⟩; have HB1 := Lib.hid hb1; have HG2w := Lib.hid (HG2.out w1 hb1); clear hb1) | (go_at_call 54; (with_reducible refine Calls.mono HG2w.out ?_); rintro e w2 ⟨rfl, hb2⟩; have HB2 := Lib.hid (HB1.out.trans (hb2.mono HB1.out.size)); clear hb2))
            all_goals (go_ret2; exact records_err E2 H.out rfl (hB.out.trans (HB2.out.mono hBs)))
        · obtain ⟨m', rfl⟩ : ∃ m', m = m' + 1 := ⟨m - 1, by omega⟩
          obtain ⟨p, hp⟩ : ∃ p, acc[m']? = some p := ⟨_, List.getElem?_eq_getElem (by have := hm.out; omega)⟩
          obtain ⟨g, rfl, hcg⟩ := own_last hown.out hm.out hp
          have hll : Hid (lastLe acc T = decide (T ≤ p.t)) := by
            show _ = _
            have e : acc.getLast? = some p := by rw [List.getLast?_eq_getElem?, show acc.length - 1 = m' by have := hm.out; omega]; exact hp
            simp only [lastLe, e]
          obtain ⟨P, hP⟩ : ∃ P, p.t = P := ⟨_, rfl⟩
          rw [hP] at hcg hll
          clear hp hP hm0
          have w1 : (0 : Int) < (m' : Int) + 1 := by omega
          have w3 : (m' : Int) < (m' : Int) + 1 := by omega
          have w4 : IntKind.i64.wrap (m' : Int) = (m' : Int) := by simp only [IntKind.wrap, IntKind.bits, IntKind.signed]; simp; omega
          by_cases hTP : T ≤ P
          · have H : Hid (recordsN l = ([], 50)) := by
              show _ = _
              rw [hstep.out]
              simp only [recsN, if_neg hne, hG]
              rw [if_neg (by simp), hll.out, if_pos (by simpa using hTP)]
            have hb1 : decide (T ≤ P) = true := by simpa using hTP
            have hb2 : (T : Int) ≤ (P : Int) := by omega
            clear hsz2
            go_wp2_with (first | (go_at_call 54; (with_reducible refine Calls.mono HG.out ?_); rintro e w1 ⟨rfl, hb1⟩; have HB1 := Lib.hid hb1; have HG2w := Lib.hid (HG2.out w1 hb1); have hcg2 := cell_later hb1 hcg; clear hb1))
            all_goals (go_ret2; exact records_err 50 H.out rfl (hB.out.trans (HB1.out.mono hBs)))
          · have hlast : Hid (lastLe acc T = false) := by show _ = _; rw [hll.out]; simpa using hTP
            have hb1 : decide (T ≤ P) = false := by simpa using hTP
            have hb2 : (P : Int) < (T : Int) := by omega
            have HM := Lib.hid (show m' + 1 = acc.length from hm.out)
            by_cases hfull : m' + 1 = 64
            · have H : Hid (recordsN l = ([], 3)) := by
                show _ = _
                rw [hstep.out]
                simp only [recsN, if_neg hne, hG]
                rw [if_neg (by simp), hlast.out, if_neg (by simp), if_pos (by rw [← HM.out]; exact hfull)]
              have hf64 : ((m' : Int) + 1 == 64) = true := by simp; omega
              clear hfull hsz2
              go_wp2_with (first | (go_at_call 54; (with_reducible refine Calls.mono HG.out ?_); rintro e w1 ⟨rfl, hb1⟩; have HB1 := Lib.hid hb1; have HG2w := Lib.hid (HG2.out w1 hb1); have hcg2 := cell_later hb1 hcg; clear hb1))
              all_goals (go_ret2; exact records_err 3 H.out rfl (hB.out.trans (HB1.out.mono hBs)))
            · have hf64 : ((m' : Int) + 1 == 64) = false := by simp; omega
              have hnfull : Hid (acc.length ≠ 64) := by show _ ≠ _; rw [← HM.out]; exact hfull
              clear hfull
              by_cases hE2 : E2 = 0
              · subst hE2
                obtain ⟨hJ1, hJ2, hT2⟩ := hsz2 rfl
                clear hT2 hsz2
                rw [hlen1.out, hn1] at hJ2
                have hAe : A = some ⟨b, off + K, none⟩ := by rw [← hA, if_neg (by omega)]
                subst hAe
                obtain ⟨o2, hA2⟩ : ∃ o2, (if cp1 = J then (some ⟨b, off + K, none⟩ : Option Addr) else some ⟨b, off + K + J, none⟩) = some ⟨b, o2, none⟩ := by
                  by_cases h : cp1 = J
                  · exact ⟨off + K, by rw [if_pos h]⟩
                  · exact ⟨off + K + J, by rw [if_neg h]⟩
                have HS2 : Hid (∀ w', Below wr.heap.size wr w' → Src w' (some ⟨b, o2, none⟩) ((rest.drop K).drop J)) := fun w' h => by
                  have := Src.drop (k := J) (cp := cp1) (HS1.out w' h) (by rw [hlen1.out]; omega)
                  rw [hA2] at this; exact this
                obtain ⟨R, hR⟩ : ∃ R, n1 - J = R := ⟨_, rfl⟩
                obtain ⟨cp2, hcp2⟩ : ∃ cp2, cp1 - J = cp2 := ⟨_, rfl⟩
                have hR0 : Hid (R + J + K = n) := by show _ = _; omega
                have hlen2 : Hid (((rest.drop K).drop J).length = R) := by show _ = _; rw [List.length_drop, hlen1.out]; omega
                have hwR : IntKind.u64.wrap ((R : Nat) : Int) = (R : Int) := by simp only [IntKind.wrap, IntKind.bits, IntKind.signed]; simp; omega
                have hJi : (J : Int) ≤ (n1 : Int) := by omega
                have hJc : J ≤ cp1 := by omega
                have hR3 : R ≤ 32768 := by omega
                have hRc : R ≤ cp2 := by omega
                have hc2 : Hid (cp2 ≤ 9223372036854775807) := by show _ ≤ _; omega
                by_cases hsh : R < T2
                · have H : Hid (recordsN l = ([], 51)) := by
                    show _ = _
                    rw [hstep.out]
                    simp only [recsN, if_neg hne, hG]
                    rw [if_neg (by simp), hlast.out, if_neg (by simp), if_neg hnfull.out]
                    simp only [hG2]
                    rw [if_neg (by simp), if_pos (by rw [hlen2.out]; exact hsh)]
                  have hshB : decide (R < T2) = true := by simpa using hsh
                  have hshI : (R : Int) < (T2 : Int) := by omega
                  go_wp2_with (first | (go_at_call 54; (with_reducible refine Calls.mono HG.out ?_); rintro e w1 ⟨rfl, hb1⟩; have HB1 := Lib.hid hb1; have HG2w := Lib.hid (HG2.out w1 hb1); have hcg2 := cell_later hb1 hcg; clear hb1) | (go_at_call 54; (with_reducible refine Calls.mono HG2w.out ?_); rintro e w2 ⟨rfl, hb2⟩; have HB2 := Lib.hid (HB1.out.trans (hb2.mono HB1.out.size)); clear hb2))
                  all_goals (go_ret2; exact records_err 51 H.out rfl (hB.out.trans (HB2.out.mono hBs)))
                · have H : Hid (recordsN l = recsN f' (acc ++ [⟨T, ((rest.drop K).drop J).take T2⟩]) (((rest.drop K).drop J).drop T2)) := by
                    show _ = _
                    rw [hstep.out]
                    simp only [recsN, if_neg hne, hG]
                    rw [if_neg (by simp), hlast.out, if_neg (by simp), if_neg hnfull.out]
                    simp only [hG2]
                    rw [if_neg (by simp), if_neg (by rw [hlen2.out]; exact hsh)]
                  have hshB : decide (R < T2) = false := by simpa using hsh
                  have hshI : (T2 : Int) ≤ (R : Int) := by omega
                  have hT2R : T2 ≤ R := by omega
                  obtain ⟨bd, hbd⟩ : ∃ bd, ((rest.drop K).drop J).take T2 = bd := ⟨_, rfl⟩
                  have hTl : bd.length = T2 := by rw [← hbd, List.length_take, hlen2.out]; omega
                  have HSb : Hid (∀ w', Below wr.heap.size wr w' → Src w' (some ⟨b, o2, none⟩) bd) := fun w' h => by rw [← hbd]; exact (HS2.out w' h).take T2
                  rw [hbd] at H
                  clear hbd
                  have HTL := Lib.hid hTl
                  clear hTl
                  go_wp2_with (first
                    | (go_at_call 54; (with_reducible refine Calls.mono HG.out ?_); rintro e w1 ⟨rfl, hb1⟩; have HB1 := Lib.hid hb1; have HG2w := Lib.hid (HG2.out w1 hb1); have hcg2 := cell_later hb1 hcg; clear hb1)
                    | (go_at_call 54; (with_reducible refine Calls.mono HG2w.out ?_); rintro e w2 ⟨rfl, hb2⟩; have HB2 := Lib.hid (HB1.out.trans (hb2.mono HB1.out.size)); clear hb2)
                    | (at_builtin; refine wpList_app' rfl _ _ rfl w2.heap.size (.slice none 0 0) 0 [] rfl (World.ownsRow_nil _ _ _ _) (some ⟨b, o2, none⟩) bd T2 HTL.out cp2 rfl (HSb.out _ HB2.out) (by omega) (Nat.le_refl _) ?_; intro v3 w3 ho3 hg3 ha3; have hb3 := below_grown hg3 rfl; have HB3 := Lib.hid (HB2.out.trans (hb3.mono HB2.out.size)); have HP3 : Hid (Byt w3 w2.heap.size v3 bd) := byt_of' ho3 rfl; obtain ⟨q1, t1, rfl⟩ := own_slice' HP3.out HTL.out; have hown3 := Lib.hid (hown.out.below HB3.out); have hb3z := HB3.out.size; have hb2z := HB2.out.size; clear ho3 hg3 ha3 hb3)
                    | (at_builtin; refine wpList_append_lies _ rfl _ _ _ rfl w.heap.size 43 i0 _ 2 32 Tryd.underlying25 hi0 hz0 hz1 hz2 rfl (by omega) _ _ _ rfl (hown3.out.choose_spec.2.1.alloc _) ⟨w3.heap.size, 0, none⟩ 1 1 [.int .u64 (T : Int), .slice q1 T2 t1] rfl rfl (World.news_of_block (cs := #[.int .u64 (T : Int), .slice q1 T2 t1]) (t := 43) (fr := (0, 0)) (heap_alloc_at w3 _)) (by simp [Value.oneCell']) (by omega) (by rw [← hm.out]; unfold maxLen; omega) (by rw [← hm.out]; omega) (by simp; omega) (w3.heap.size + 1) (by simp) ?_; intro g2 cap2 w4 hown2 hgrow2 hat2 hlt2; have HO2 := Lib.hid hown2; have HG3 := Lib.hid hgrow2; clear hown2 hgrow2 hat2 hlt2))
                  go_roundw
                  case rel =>
                    have hrow := fun (g : Nat) (hg : (Value.slice _ (m' + 1) c0).ownBlock = some g) => (hown3.out.choose_spec.2.1.lt g hg).1
                    refine ⟨((rest.drop K).drop J).drop T2, acc ++ [⟨T, bd⟩], _, _, f', _, _, _, _, rfl, ?_, ?_, ?_, ?_, ?_, Lib.hid H.out, ?_, rfl, ?_, Lib.hid (OwnRecs.snoc hown3.out (byt_base HP3.out (Nat.le_trans hBs hb2z)) HTL.out HTB.out HG3.out HO2.out), ?_, ?_, ?_, ?_⟩
                    · show _ = _
                      rw [List.length_drop, hlen2.out]
                    · omega
                    · omega
                    · have := hc2.out; unfold maxLen; omega
                    · have h1 := (Src.drop (k := T2) (cp := cp2) (HS2.out _ HB3.out) (by rw [hlen2.out]; exact hRc))
                      have h2 := h1.below (below_new w3 (.cells #[.int .u64 (T : Int), .slice q1 T2 t1] 43))
                      exact Src.grown (B := w.heap.size) h2 HG3.out hrow (fun b' off' e => by split at e <;> (cases e; exact hbw.out))
                    · have := hR0.out; omega
                    · simp [Hid]
                    · have := HM.out; have := hnfull.out; omega
                    · have h1 := hB.out.trans (HB3.out.mono hBs)
                      exact (h1.alloc h1.size _).grown HG3.out (by have := h1.size; simp; omega) hrow
                    · intro e; split at e <;> cases e
                    · intro b' off' _ e
                      split at e <;> (cases e; exact hbw.out)
                  case measure => have := hR0.out; simp; omega
              · have hE21 : ((E2 : Int) != 0) = true := by simp; omega
                have H : Hid (recordsN l = ([], E2)) := by
                  show _ = _
                  rw [hstep.out]
                  simp only [recsN, if_neg hne, hG]
                  rw [if_neg (by simp), hlast.out, if_neg (by simp), if_neg hnfull.out]
                  simp only [hG2]
                  rw [if_pos hE2]
                clear hsz2
                go_wp2_with (first | (go_at_call 54; (with_reducible refine Calls.mono HG.out ?_); rintro e w1 ⟨rfl, hb1⟩; have HB1 := Lib.hid hb1; have HG2w := Lib.hid (HG2.out w1 hb1); have hcg2 := cell_later hb1 hcg; clear hb1) | (go_at_call 54; (with_reducible refine Calls.mono HG2w.out ?_); rintro e w2 ⟨rfl, hb2⟩; have HB2 := Lib.hid (HB1.out.trans (hb2.mono HB1.out.size)); clear hb2))
                all_goals (go_ret2; exact records_err E2 H.out rfl (hB.out.trans (HB2.out.mono hBs)))
      · have hE1 : ((E : Int) != 0) = true := by simp; omega
        have H : Hid (recordsN l = ([], E)) := by
          show _ = _
          rw [hstep.out]
          simp only [recsN, if_neg hne, hG]
          rw [if_pos hE]
        clear hsz
        go_wp2_with (go_at_call 54; (with_reducible refine Calls.mono HG.out ?_); rintro e w1 ⟨rfl, hb1⟩; have HB1 := Lib.hid hb1; clear hb1)
        go_ret2
        exact records_err E H.out rfl (hB.out.trans (HB1.out.mono hBs))
theorem recordsr_any (a : Option Addr) (cp : Nat) (l : List UInt8) (w : World) (hcp : l.length ≤ cp) (hcm : cp ≤ maxLen) (hs : Src w a l) (hn : a = none → cp = 0) : Calls Tryd.prog 41 #[.slice a l.length cp] w (RecordsPost l w) := by
  by_cases h : 32768 < l.length
  · exact recordsr_much a cp l w h (by omega)
  · exact recordsr_few a cp l w (by omega) hcp hcm hs hn
end Go.Proofs.YtakfhoodjcfpcaaDoor.T
