/- tlv: records in memory; Stream. -/
import Derived.Calls
import Derived.WalkKit
import Derived.WalkSpells
import Derived.WalkLawsBesides
import Derived.Handy
import Derived.Lib.Hide
import Derived.Deep.AppendLies
import Derived.Deep.LoopGhost
import Derived.Outline
import Derived.Laws.BitsAllLaws
import Derived.Laws.BitsLemmas
import Derived.Lib.AppendZeros
import Derived.Lib.AppendZerosOnto
import Derived.Maps.AppendAt
import Derived.Laws.Append
import Derived.Laws.AppendOwn
import Derived.Deep.QuietTactic
import Derived.BigQuiet
import Derived.Deep.RegionHeld3
import Derived.Test.YtakfhoodjcfpcaaDoorRows
import Derived.Test.YtakfhoodjcfpcaaDoorPl
import Derived.Test.YtakfhoodjcfpcaaDoorTlA
import Derived.Test.YtakfhoodjcfpcaaDoorTlB
import Derived.Test.YtakfhoodjcfpcaaDoorTlD
import Derived.Test.YtakfhoodjcfpcaaDoorTlF
import Derived.Test.YtakfhoodjcfpcaaDoorTlG
namespace Go.Proofs.YtakfhoodjcfpcaaDoor.T
open Go.RowKit Tlv

theorem cell4 (w : World) (a b c d : Value) (t : TypeId) : (w.alloc (.cells #[a, b, c, d] t)).cell? ⟨w.heap.size, 0, none⟩ = some a ∧ (w.alloc (.cells #[a, b, c, d] t)).cell? ⟨w.heap.size, 1, none⟩ = some b ∧ (w.alloc (.cells #[a, b, c, d] t)).cell? ⟨w.heap.size, 2, none⟩ = some c ∧ (w.alloc (.cells #[a, b, c, d] t)).cell? ⟨w.heap.size, 3, none⟩ = some d := by
  have h := heap_alloc_at w (.cells #[a, b, c, d] t)
  refine ⟨?_, ?_, ?_, ?_⟩ <;> (rw [cell_of_row _ _ _ _ _ _ h]; rfl)
theorem below_new (w : World) (o : Obj) : Below w.heap.size w (w.alloc o) := (Below.refl _ _).alloc (Nat.le_refl _) _
theorem byt_base {w : World} {B B' : Nat} {v : Value} {l : List UInt8} (h : Byt w B v l) (hB : B' ≤ B) : Byt w B' v l :=
  ⟨h.1, h.2.imp id fun ⟨g, cap, cur, h1, h2, h3⟩ => ⟨g, cap, cur, h1, Nat.le_trans hB h2, h3⟩⟩
def RecAt (w : World) (b o : Nat) (r : Rec) : Prop := ∃ ai ci, w.cell? ⟨b, o, none⟩ = some (.int .u64 (r.t : Int)) ∧ w.cell? ⟨b, o + 1, none⟩ = some (.slice ai r.body.length ci) ∧ Src w ai r.body ∧ r.body.length ≤ ci ∧ ci ≤ maxLen ∧ (ai = none → ci = 0)
/-- these records lie there -/
def Recs (w : World) (a : Option Addr) (L : List Rec) : Prop := L = [] ∨ ∃ b off, a = some ⟨b, off, none⟩ ∧ ∀ (k : Nat) (r : Rec), L[k]? = some r → RecAt w b (off + k * 2) r
theorem below_drewN {B : Nat} {a w : World} (h : Below B a w) (n : Nat) : Below B a (w.drewN n) := ⟨h.os, h.tape, h.output, h.size, h.block⟩
theorem RecAt.below {w w' : World} {b o : Nat} {r : Rec} (h : RecAt w b o r) (hb : Below w.heap.size w w') : RecAt w' b o r := by
  obtain ⟨ai, ci, h1, h2, h3, h4, h5⟩ := h
  exact ⟨ai, ci, cell_later hb h1, cell_later hb h2, h3.below hb, h4, h5⟩
theorem Recs.below {w w' : World} {a : Option Addr} {L : List Rec} (h : Recs w a L) (hb : Below w.heap.size w w') : Recs w' a L := by
  rcases h with h | ⟨b, off, ha, hk⟩
  · exact .inl h
  · exact .inr ⟨b, off, ha, fun k r hr => (hk k r hr).below hb⟩

/-- bytes and error -/
def StreamPost (L : List Rec) (w : World) (e : Ending) (w' : World) : Prop := ∃ v, e = .returned (.tuple #[v, .int .i64 ((streamN L).2 : Int)]) ∧ Byt w' w.heap.size v (streamN L).1 ∧ Below w.heap.size w w'
theorem stream_err {L : List Rec} {w w' : World} {x : Int} (k : Nat) (h : streamN L = ([], k)) (hx : x = (k : Int)) (hb : Below w.heap.size w w') : StreamPost L w (.returned (.tuple #[.slice none 0 0, .int .i64 x])) w' := by
  refine ⟨.slice none 0 0, ?_, ?_, hb⟩
  · rw [h, hx]
  · rw [h]; exact byt_nil _ _
set_option maxRecDepth 100000 in
set_option maxHeartbeats 2000000 in
theorem stream_many (a : Option Addr) (cp : Nat) (L : List Rec) (w : World) (hl : 64 < L.length) (hm : L.length ≤ maxLen) : Calls Tryd.prog 27 #[.slice a L.length cp] w (StreamPost L w) := by
  have H : Hid (streamN L = ([], 3)) := by show _ = _; unfold streamN; rw [if_pos hl]
  unfold maxLen at hm
  have h64 : (64 : Int) < (L.length : Int) := by omega
  go_enter Tryd.func27, Tryd.ntmps27
  go_wp2
  go_ret2
  exact stream_err 3 H.out rfl (Below.refl _ _)
set_option maxRecDepth 100000 in
set_option maxHeartbeats 4000000 in
theorem stream_few (a : Option Addr) (cp : Nat) (L : List Rec) (w : World) (hl : L.length ≤ 64) (hr : Recs w a L) (ht : ∀ r ∈ L, r.t < 18446744073709551616) (hbd : ∀ r ∈ L, r.body.length ≤ 140737488355328) : Calls Tryd.prog 27 #[.slice a L.length cp] w (StreamPost L w) := by
  have HR := Lib.hid hr; have HT := Lib.hid ht; have HBD := Lib.hid hbd
  clear hr ht hbd
  have h64 : ¬ (64 : Int) < (L.length : Int) := by omega
  have h64' : (L.length : Int) ≤ 64 := by omega
  go_enter Tryd.func27, Tryd.ntmps27
  go_wp2
  go_loopw [5, 15] (fun lg iv wr => ∃ (k : Nat) (y : Int), k ≤ L.length ∧ iv = .int .i64 k ∧ lg = .int .i64 y ∧ Hid (y = ((min (bodies (L.take k)) 32769 : Nat) : Int)) ∧ 0 ≤ y ∧ y ≤ 32769 ∧ Hid (Below w.heap.size w wr) ∧ Hid (∀ (i : Nat) (a b : Rec), i + 1 < k → L[i]? = some a → L[i + 1]? = some b → a.t < b.t)) (fun _ iv _ => L.length - (intOf iv).toNat)
  case atStart => exact ⟨0, 0, Nat.zero_le _, rfl, rfl, by simp [Hid, bodies], by omega, by omega, Below.refl _ _, fun i a b h => by omega⟩
  case round =>
    obtain ⟨k, y, hk, rfl, rfl, hy, hy0, hy1, hB, hris⟩ := hrel
    by_cases hlt : k < L.length
    · obtain ⟨r, hr⟩ : ∃ r, L[k]? = some r := ⟨_, List.getElem?_eq_getElem hlt⟩
      have hne : L ≠ [] := by intro h; rw [h] at hlt; simp at hlt
      obtain ⟨b, off, rfl, hrec⟩ := (HR.out.below hB.out).resolve_left hne
      obtain ⟨ai, ci, c0, c1, cs, cl, cm⟩ := hrec k r hr
      have htr : r.t < 18446744073709551616 := HT.out r (List.mem_of_getElem? hr)
      obtain ⟨x, hx⟩ : ∃ x : Int, (r.t : Int) = x := ⟨_, rfl⟩
      rw [hx] at c0
      obtain ⟨z, hz⟩ : ∃ z : Int, (r.body.length : Int) = z := ⟨_, rfl⟩
      have hz0 : 0 ≤ z := by omega
      have hzm : z ≤ 140737488355328 := by have := HBD.out r (List.mem_of_getElem? hr); omega
      have HX := Lib.hid hx; have HZ := Lib.hid hz; have HRK := Lib.hid hr; have HREC := Lib.hid hrec
      clear hx htr hr hrec cs
      have hbl := bodies_take L k r HRK.out
      have hnext : Hid ((if 32769 < y + z then 32769 else y + z) = ((min (bodies (L.take (k + 1))) 32769 : Nat) : Int)) := by
        have := hy.out; have := HZ.out; show _ = _; split <;> omega
      clear hbl
      have hq0 : Hid (0 ≤ (if 32769 < y + z then 32769 else y + z)) := by show _ ≤ _; split <;> omega
      have hq1 : Hid ((if 32769 < y + z then 32769 else y + z) ≤ 32769) := by show _ ≤ _; split <;> omega
      have hBs := hB.out.size
      by_cases hk0 : k = 0
      · subst hk0
        simp only [Nat.zero_mul, Nat.add_zero] at c0 c1
        rw [show (((0 : Nat) : Int)) = 0 from rfl]
        go_wp2_with fail
        go_quiet (fail)
        go_wp2
        go_roundw
        case rel => exact ⟨1, _, by omega, rfl, rfl, hnext, hq0.out, hq1.out, below_drewN (hB.out.alloc hBs _) _, fun i a b h => by omega⟩
        case measure => simp [intOf]; omega
      · obtain ⟨m, rfl⟩ : ∃ m, k = m + 1 := ⟨k - 1, by omega⟩
        obtain ⟨p, hp⟩ : ∃ p, L[m]? = some p := ⟨_, List.getElem?_eq_getElem (by omega)⟩
        obtain ⟨_, _, d0, _, _, _, _⟩ := HREC.out m p hp
        obtain ⟨u, hu⟩ : ∃ u : Int, (p.t : Int) = u := ⟨_, rfl⟩
        rw [hu] at d0
        have HU := Lib.hid hu; have HP := Lib.hid hp
        clear hu hp
        rw [show (((m + 1 : Nat) : Int)) = (m : Int) + 1 by omega]
        have w1 : (0 : Int) < (m : Int) + 1 := by omega
        have w0 : b < wr.heap.size := World.block_lt_of_cell? wr _ c0
        have w2 : (m : Int) + 1 < (L.length : Int) := by omega
        have w3 : (m : Int) < (L.length : Int) := by omega
        have w4 : IntKind.i64.wrap (m : Int) = (m : Int) := by simp only [IntKind.wrap, IntKind.bits, IntKind.signed]; simp; omega
        by_cases hxu : x ≤ u
        · have dx : decide (x ≤ u) = true := by simpa using hxu
          have H : Hid (streamN L = ([], 50)) := by
            show _ = _
            unfold streamN
            rw [if_neg (by omega)]
            have hf : rising L = false := by
              cases hrs : rising L with
              | false => rfl
              | true => have := rising_at hrs m p r HP.out HRK.out; have := HX.out; have := HU.out; omega
            rw [if_pos hf]
          go_wp2_with fail
          go_quiet (fail)
          go_wp2
          go_ret2
          exact stream_err 50 H.out rfl (below_drewN (hB.out.alloc hBs _) _)
        · have dx : decide (x ≤ u) = false := by simpa using hxu
          have hris' : Hid (∀ (i : Nat) (a b : Rec), i + 1 < m + 1 + 1 → L[i]? = some a → L[i + 1]? = some b → a.t < b.t) := fun i a b hi ha hb => by
            by_cases him : i = m
            · subst him
              have e1 := HP.out; have e2 := HRK.out
              rw [ha] at e1; rw [hb] at e2; cases e1; cases e2
              have := HX.out; have := HU.out; omega
            · exact hris.out i a b (by omega) ha hb
          go_wp2_with fail
          go_quiet (fail)
          go_wp2
          go_roundw
          case rel => exact ⟨m + 1 + 1, _, by omega, by go_num, rfl, hnext, hq0.out, hq1.out, below_drewN (hB.out.alloc hBs _) _, hris'⟩
          case measure => simp [intOf]; omega
    · obtain rfl : k = L.length := by omega
      have hfull : Hid (y = ((min (bodies L) 32769 : Nat) : Int)) := by have := hy.out; rw [List.take_length] at this; exact this
      have hR : Hid (rising L = true) := rising_of fun i a b ha hb => hris.out i a b (List.getElem?_eq_some_iff.1 hb).1 ha hb
      clear hy hris
      by_cases hbig : 32768 < y
      · have H : Hid (streamN L = ([], 3)) := by
          show _ = _
          have := hfull.out
          have := (encAll_len L).1
          unfold streamN
          rw [if_neg (by omega), hR.out, if_neg (by decide), if_pos (by omega)]
        go_wp2
        go_ret2
        exact stream_err 3 H.out rfl hB.out
      · have hbod : bodies L ≤ 32768 := by have := hfull.out; omega
        clear hfull
        have HB0 := Lib.hid hB.out
        go_wp2
        clear hB hy0 hy1
        go_loopw [4, 44] (fun v iv wr => ∃ k : Nat, k ≤ L.length ∧ iv = .int .i64 k ∧ Hid (Byt wr w.heap.size v (encAll (L.take k))) ∧ Hid (Below w.heap.size w wr)) (fun _ iv _ => L.length - (intOf iv).toNat)
        case atStart => exact ⟨0, Nat.zero_le _, rfl, by simp [Hid, encAll]; exact byt_nil _ _, HB0.out⟩
        case round =>
          obtain ⟨k, hk, rfl, hBy, hB⟩ := hrel
          obtain ⟨va, vc, rfl⟩ := own_slice hBy.out
          have hBs := hB.out.size
          have hlen : (encAll (L.take k)).length ≤ 40000 := by
            have h1 := (encAll_len (L.take k)).2
            have h2 := bodies_mono L k
            rw [List.length_take] at h1
            omega
          by_cases hlt : k < L.length
          · obtain ⟨r, hr⟩ : ∃ r, L[k]? = some r := ⟨_, List.getElem?_eq_getElem hlt⟩
            have hne : L ≠ [] := by intro h; rw [h] at hlt; simp at hlt
            obtain ⟨b, off, rfl, hrec⟩ := (HR.out.below hB.out).resolve_left hne
            obtain ⟨ai, ci, c0, c1, cs, cl, cm⟩ := hrec k r hr
            have hrb : r.body.length ≤ 32768 := by have := bodies_take L k r hr; have := bodies_mono L (k + 1); omega
            have hnx := encAll_take L k r hr
            generalize encAll (L.take k) = l0 at hBy hlen hnx ⊢
            obtain ⟨x, hx⟩ : ∃ x : Int, (r.t : Int) = x := ⟨_, rfl⟩
            obtain ⟨z, hz⟩ : ∃ z : Int, (r.body.length : Int) = z := ⟨_, rfl⟩
            have hx0 : 0 ≤ x := by omega
            have hz0 : 0 ≤ z := by omega
            have hz1 : z ≤ 32768 := by omega
            have hwz : IntKind.u64.wrap z = z := by simp only [IntKind.wrap, IntKind.bits, IntKind.signed]; simp; omega
            rw [hx] at c0
            have hxt : x.toNat = r.t := by omega
            have hzt : z.toNat = r.body.length := by omega
            rw [← hxt, ← hzt] at hnx
            have HNX := Lib.hid hnx; have HCS := Lib.hid cs; have HX := Lib.hid hx; have HZ := Lib.hid hz; have HZT := Lib.hid hzt
            clear hr hrec hnx cs hx hxt hzt cl cm
            have R0 : Hid (∀ o : Obj, Below wr.heap.size wr (wr.alloc o).drew) := fun o => ((Below.refl _ _).alloc (Nat.le_refl _) _).drew
            go_wp2_with fail
            have b0 := heap_alloc_at wr (.cells #[.int .u64 x, .slice ai r.body.length ci] 43)
            have R1 := Lib.hid ((Below.refl wr.heap.size wr).alloc (Nat.le_refl _) (.cells #[.int .u64 x, .slice ai r.body.length ci] 43))
            generalize wr.alloc (.cells #[.int .u64 x, .slice ai r.body.length ci] 43) = w0 at b0 R1 ⊢
            have d0 : w0.cell? ⟨wr.heap.size, 0, none⟩ = some (.int .u64 x) := by rw [cell_of_row w0 _ _ _ _ _ b0]; rfl
            have d1 : w0.cell? ⟨wr.heap.size, 1, none⟩ = some (.slice ai r.body.length ci) := by rw [cell_of_row w0 _ _ _ _ _ b0]; rfl
            obtain ⟨rb, hrb'⟩ : ∃ rb, wr.heap.size = rb := ⟨_, rfl⟩
            rw [hrb'] at d0 d1 ⊢
            have SV : Hid (Src w0 va l0) := (Src.of_byt hBy.out).below R1.out
            have SB : Hid (Src w0 ai r.body) := HCS.out.below R1.out
            have HB' : Hid (Below w.heap.size w w0) := hB.out.trans (R1.out.mono hBs)
            have SVd : Hid (Src w0.drew va l0) := SV.out
            have SBd : Hid (Src w0.drew ai r.body) := SB.out
            clear b0 hrb'
            go_region_held3 (fun w' => w'.cell? ⟨rb, 0, none⟩ = some (.int .u64 x) ∧ w'.cell? ⟨rb, 1, none⟩ = some (.slice ai r.body.length ci))
              (first | go_keep | (go_split_ands; refine ⟨?_, ?_⟩ <;> (refine cell_later (by assumption) ?_; assumption)) | (go_split_ands; refine ⟨?_, ?_⟩ <;> (refine cell_later ((Below.refl _ _).alloc (Nat.le_refl _) _) ?_; assumption)))
              (first | (go_at_call 46; (with_reducible refine Calls.mono (Put_any x hx0 _) ?_); rintro e w1 ⟨v1, rfl, hp1, hb1⟩; obtain ⟨q1, t1, rfl⟩ := own_slice hp1; have HP1 := Lib.hid hp1; have HB1 := Lib.hid hb1; clear hp1) | (go_at_call 46; (with_reducible refine Calls.mono (Put_any z hz0 _) ?_); rintro e w2 ⟨v2, rfl, hp2, hb2⟩; obtain ⟨q2, t2, rfl⟩ := own_slice hp2; have HP2 := Lib.hid hp2; have HB2 := Lib.hid hb2; clear hp2) | (go_at_call 47; (with_reducible refine Calls.mono (concat4 w2.heap.size va q1 q2 ai l0 (putN x.toNat) (putN z.toNat) r.body vc t1 t2 ci _ (by have := (putN_pos x.toNat).2; have := (putN_pos z.toNat).2; omega) (cell4 w2 _ _ _ _ 33).1 (cell4 w2 _ _ _ _ 33).2.1 (cell4 w2 _ _ _ _ 33).2.2.1 (cell4 w2 _ _ _ _ 33).2.2.2 ((((SVd.out.below HB1.out).below HB2.out).below (below_new _ _))) (((Src.of_byt HP1.out).below HB2.out).below (below_new _ _)) ((Src.of_byt HP2.out).below (below_new _ _)) ((((SBd.out.below HB1.out).below HB2.out).below (below_new _ _)))) ?_); rintro e w3 ⟨v3, rfl, hp3, hb3⟩; have HP3 := Lib.hid hp3; have HB3 := Lib.hid hb3; clear hp3))
            go_wp2
            go_roundw
            case rel =>
              have z0 := HB'.out.size
              have z1 : w0.heap.size ≤ w1.heap.size := HB1.out.size
              have z2 := HB2.out.size
              refine ⟨k + 1, by omega, by go_num, ?_, ?_⟩
              · have h := byt_base (B' := w.heap.size) HP3.out (by simp; omega)
                rw [← HNX.out] at h
                exact h
              · exact ((((HB'.out.drew).trans (HB1.out.mono z0)).trans (HB2.out.mono (by omega))).alloc (by omega) _).trans (HB3.out.mono (by simp; omega))
            case measure => simp [intOf]; omega
          · obtain rfl : k = L.length := by omega
            have hBy' : Hid (Byt wr w.heap.size (.slice va (encAll (L.take L.length)).length vc) (encAll L)) := by have := hBy.out; rw [List.take_length] at this ⊢; exact this
            rw [List.take_length] at hBy' hlen ⊢
            clear hBy
            have hE := (encAll_len L).1
            by_cases hbig : 32768 < (encAll L).length
            · have H : Hid (streamN L = ([], 3)) := by
                show _ = _
                unfold streamN
                rw [if_neg (by omega), hR.out, if_neg (by decide), if_pos hbig]
              generalize (encAll L).length = n at hbig hlen hBy' hE ⊢
              have hbi : (32768 : Int) < (n : Int) := by omega
              go_wp2
              go_ret2
              exact stream_err 3 H.out rfl hB.out
            · have H : Hid (streamN L = (encAll L, 0)) := by
                show _ = _
                unfold streamN
                rw [if_neg (by omega), hR.out, if_neg (by decide), if_neg hbig]
              generalize hn : (encAll L).length = n at hbig hlen hBy' hE ⊢
              clear hn
              have hbi : ¬ (32768 : Int) < (n : Int) := by omega
              go_wp2
              go_ret2
              refine ⟨.slice va n vc, ?_, ?_, hB.out⟩
              · rw [H.out]; rfl
              · rw [H.out]; exact hBy'.out
theorem stream_any (a : Option Addr) (cp : Nat) (L : List Rec) (w : World) (hm : L.length ≤ maxLen) (hr : Recs w a L) (ht : ∀ r ∈ L, r.t < 18446744073709551616) (hbd : ∀ r ∈ L, r.body.length ≤ 140737488355328) : Calls Tryd.prog 27 #[.slice a L.length cp] w (StreamPost L w) := by
  by_cases h : 64 < L.length
  · exact stream_many a cp L w h hm
  · exact stream_few a cp L w (by omega) hr ht hbd
end Go.Proofs.YtakfhoodjcfpcaaDoor.T
