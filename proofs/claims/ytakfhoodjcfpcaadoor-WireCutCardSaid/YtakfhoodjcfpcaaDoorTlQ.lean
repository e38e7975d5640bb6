/- tlv: the document's Lent. -/
import Derived.Test.YtakfhoodjcfpcaaDoorTlP
namespace Go.Proofs.YtakfhoodjcfpcaaDoor.T
open Go.RowKit Tlv

theorem below_grown {w w' : World} {row : Option Nat} (hg : w.grownBy w' row) (hr : row = none) : Below w.heap.size w w' :=
  (Below.refl _ _).grown hg (Nat.le_refl _) (fun k hk => by rw [hr] at hk; cases hk)
def LentPost (L : List Rec) (w : World) (e : Ending) (w' : World) : Prop := ∃ v, e = .returned v ∧ OwnRecs w' w.heap.size v L ∧ Below w.heap.size w w'
set_option maxRecDepth 100000 in
set_option maxHeartbeats 4000000 in
theorem lent_any (a : Option Addr) (cp : Nat) (L : List Rec) (w : World) (hm : L.length ≤ 4000) (hbd : ∀ r ∈ L, r.body.length ≤ 4000) (ht : ∀ r ∈ L, r.t < 18446744073709551616) (hr : Recs w a L) : Calls Tryd.prog 22 #[.slice a L.length cp] w (LentPost L w) := by
  have HR := Lib.hid hr; have HT := Lib.hid ht; have HBD := Lib.hid hbd
  clear hr ht hbd
  obtain ⟨i0, hi0, hz0, hz1, hz2⟩ := info_parts Tryd.info43
  go_enter Tryd.func22, Tryd.ntmps22
  go_wp2
  go_loopw [3, 4] (fun ov iv wr => ∃ (k : Nat) (a0 : Option Addr) (c0 : Nat), k ≤ L.length ∧ iv = .int .i64 k ∧ ov = .slice a0 k c0 ∧ Hid (OwnRecs wr w.heap.size (.slice a0 k c0) (L.take k)) ∧ Hid (Below w.heap.size w wr)) (fun _ iv _ => L.length - (intOf iv).toNat)
  case atStart => exact ⟨0, none, 0, Nat.zero_le _, rfl, rfl, ownRecs_nil _ _, Below.refl _ _⟩
  case round =>
    obtain ⟨k, a0, c0, hk, rfl, rfl, hown, hB⟩ := hrel
    have hBs := hB.out.size
    by_cases hlt : k < L.length
    · obtain ⟨r, hr⟩ : ∃ r, L[k]? = some r := ⟨_, List.getElem?_eq_getElem hlt⟩
      have hne : L ≠ [] := by intro h; rw [h] at hlt; simp at hlt
      obtain ⟨b, off, rfl, hrec⟩ := (HR.out.below hB.out).resolve_left hne
      obtain ⟨ai, ci, d0, d1, ds, _, _⟩ := hrec k r hr
      have hrl : r.body.length ≤ 4000 := HBD.out r (List.mem_of_getElem? hr)
      have htr : Hid (r.t < 18446744073709551616) := HT.out r (List.mem_of_getElem? hr)
      have htk : Hid (L.take (k + 1) = L.take k ++ [⟨r.t, r.body⟩]) := by
        show _ = _
        rw [List.take_succ_eq_append_getElem hlt]
        have : L[k] = r := by rw [List.getElem?_eq_getElem hlt] at hr; exact Option.some.inj hr
        rw [this]
      have hkl : (k : Int) < (L.length : Int) := by omega
      have hlenk : Hid ((L.take k).length = k) := by show _ = _; rw [List.length_take]; omega
      have DS := Lib.hid ds
      obtain ⟨bd, hbd⟩ : ∃ bd, r.body = bd := ⟨_, rfl⟩
      obtain ⟨t, htt⟩ : ∃ t, r.t = t := ⟨_, rfl⟩
      rw [hbd] at DS d1 hrl htk
      rw [htt] at d0 htr htk
      have HRL := Lib.hid hrl
      clear hr hrec ds hbd htt hrl
      go_wp2_with (first
        | (at_builtin; refine wpList_app rfl _ _ rfl wr.heap.size (.slice none 0 0) 0 [] rfl (World.ownsRow_nil _ _ _ _) ai bd ci rfl DS.out (by have := HRL.out; omega) (Nat.le_refl _) ?_; intro v1 w1 ho1 hg1 ha1; have hb1 := below_grown hg1 rfl; have HB1 := Lib.hid hb1; have d0' := cell_later hb1 d0; have d1' := cell_later hb1 d1; have hown3 := Lib.hid (hown.out.below hb1); have hb1z := hb1.size; have HP1 : Hid (Byt w1 wr.heap.size v1 bd) := byt_of' ho1 rfl; obtain ⟨q1, t1, rfl⟩ := own_slice HP1.out; clear hb1 ho1 hg1 ha1)
        | (at_builtin; refine wpList_append_lies _ rfl _ _ _ rfl w.heap.size 43 i0 _ 2 32 Tryd.underlying25 hi0 hz0 hz1 hz2 rfl (by omega) _ _ _ rfl (hown3.out.choose_spec.2.1.alloc _) ⟨w1.heap.size, 0, none⟩ 1 1 [.int .u64 (t : Int), .slice q1 bd.length t1] rfl rfl (World.news_of_block (cs := #[.int .u64 (t : Int), .slice q1 bd.length t1]) (t := 43) (fr := (0, 0)) (heap_alloc_at w1 _)) (by simp [Value.oneCell']) (by omega) (by rw [hlenk.out]; unfold maxLen; omega) (by rw [hlenk.out]; omega) (by simp; omega) (w1.heap.size + 1) (by simp) ?_; intro g2 cap2 w2 hown2 hgrow2 hat2 hlt2; have HO2 := Lib.hid hown2; have HG3 := Lib.hid hgrow2; clear hown2 hgrow2 hat2 hlt2))
      go_roundw
      case rel =>
        refine ⟨k + 1, _, _, by omega, by go_num, rfl, ?_, ?_⟩
        · have h := OwnRecs.snoc hown3.out (byt_base HP1.out hBs) rfl htr.out HG3.out HO2.out
          rw [← htk.out, hlenk.out] at h
          exact h
        · have hrow := fun (g : Nat) (hg : (Value.slice a0 k c0).ownBlock = some g) => (hown3.out.choose_spec.2.1.lt g hg).1
          have h1 := hB.out.trans (HB1.out.mono hBs)
          exact (h1.alloc h1.size _).grown HG3.out (by have := h1.size; simp; omega) hrow
      case measure => simp [intOf]; omega
    · obtain rfl : k = L.length := by omega
      go_wp2_with fail
      go_ret
      refine ⟨_, rfl, ?_, hB.out⟩
      have := hown.out
      rw [List.take_length] at this
      exact this
end Go.Proofs.YtakfhoodjcfpcaaDoor.T
