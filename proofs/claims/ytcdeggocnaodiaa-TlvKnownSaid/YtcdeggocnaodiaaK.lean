/- tlv: the short play. -/
import Derived.Test.YtcdeggocnaodiaaJ
import Derived.Laws.IdiomStrings
import Derived.Lib.BufferRead
namespace Go.Proofs.Ytcdeggocnaodiaa
open Go.RowKit Tlv
def exL : List Rec := [⟨1, [7, 8]⟩, ⟨254, []⟩]
theorem ex_stream : streamN exL = ([1, 2, 7, 8, 253, 0, 254, 0], 0) := by decide +kernel
theorem ex_records : recordsN [1, 2, 7, 8, 253, 0, 254, 0] = (exL, 0) := by kernel_rfl
/-- bytes of the call's own, some: where they lie -/
theorem byt_pos {w : World} {base : Nat} {v : Value} {l : List UInt8} (h : Byt w base v l) (hl : l ≠ []) : ∃ g c, v = .slice (some ⟨g, 0, none⟩) l.length c ∧ l.length ≤ c ∧ c ≤ maxLen ∧ base ≤ g ∧ g < w.heap.size := by
  rcases h.2 with ⟨_, h0⟩ | ⟨g, cap, cur, hv, hg, hh, hc, hm, hs, ht⟩
  · exact absurd (List.eq_nil_of_length_eq_zero h0) hl
  · exact ⟨g, cap, hv, hc, hm, hg, (Array.getElem?_eq_some_iff.1 hh).1⟩
/-- string(b) -/
theorem conv_str (w : World) (g : Nat) (l : List UInt8) (c : Nat) (hs : Src w (some ⟨g, 0, none⟩) l) (hl : l ≠ []) : (convert 23 9 (.slice (some ⟨g, 0, none⟩) l.length c)).run Try.prog w = .ok (.string ⟨l.toArray⟩) w := by
  refine run_convert_bytes_back w 23 9 5 _ c l Try.underlying23 Try.underlying5 Try.underlying9 fun j hj => ?_
  obtain ⟨b, off, e, hk⟩ := hs.resolve_left hl
  cases e
  rw [Addr.add_lit]
  exact hk j _ (List.getElem?_eq_getElem hj)
theorem ex_recs (w : World) : Recs ((w.alloc (.cells #[.int .u8 7, .int .u8 8] 5)).alloc (.cells #[.int .u64 1, .slice (some ⟨w.heap.size, 0, none⟩) 2 2, .int .u64 254, .slice none 0 0] 39)) (some ⟨w.heap.size + 1, 0, none⟩) exL := by
  have h1 := heap_alloc_at (w.alloc (.cells #[.int .u8 7, .int .u8 8] 5)) (.cells #[.int .u64 1, .slice (some ⟨w.heap.size, 0, none⟩) 2 2, .int .u64 254, .slice none 0 0] 39)
  have h0 := heap_alloc_at w (.cells #[.int .u8 7, .int .u8 8] 5)
  rw [World.size_alloc] at h1
  have s0 : Src (w.alloc (.cells #[.int .u8 7, .int .u8 8] 5)) (some ⟨w.heap.size, 0, none⟩) [7, 8] := .inr ⟨_, _, rfl, fun k c hk => by
    rw [cell_of_row _ _ _ _ _ _ h0]
    match k, hk with
    | 0, hk => cases hk; rfl
    | 1, hk => cases hk; rfl⟩
  have s1 := s0.below (below_new _ (.cells #[.int .u64 1, .slice (some ⟨w.heap.size, 0, none⟩) 2 2, .int .u64 254, .slice none 0 0] 39))
  refine .inr ⟨_, _, rfl, fun k r hk => ?_⟩
  match k, hk with
  | 0, hk =>
    cases hk
    exact ⟨_, 2, by rw [cell_of_row _ _ _ _ _ _ h1]; rfl, by rw [cell_of_row _ _ _ _ _ _ h1]; rfl, s1, by decide, by decide, fun h => by cases h⟩
  | 1, hk =>
    cases hk
    exact ⟨none, 0, by rw [cell_of_row _ _ _ _ _ _ h1]; rfl, by rw [cell_of_row _ _ _ _ _ _ h1]; rfl, .inl rfl, by decide, by decide, fun _ => rfl⟩
theorem ex_fits : ∀ r ∈ exL, r.t < 18446744073709551616 := by
  intro r hr
  simp [exL] at hr
  rcases hr with rfl | rfl <;> decide
theorem ex_small : ∀ r ∈ exL, r.body.length ≤ 140737488355328 := by
  intro r hr
  simp [exL] at hr
  rcases hr with rfl | rfl <;> decide
theorem stream_ex (w : World) : Calls Try.prog 17 #[.slice (some ⟨w.heap.size + 1, 0, none⟩) 2 2] ((w.alloc (.cells #[.int .u8 7, .int .u8 8] 5)).alloc (.cells #[.int .u64 1, .slice (some ⟨w.heap.size, 0, none⟩) 2 2, .int .u64 254, .slice none 0 0] 39)) fun e w' => ∃ g c, e = .returned (.tuple #[.slice (some ⟨g, 0, none⟩) 8 c, .int .i64 0]) ∧ Src w' (some ⟨g, 0, none⟩) [1, 2, 7, 8, 253, 0, 254, 0] ∧ 8 ≤ c ∧ c ≤ maxLen ∧ Below (w.heap.size + 2) ((w.alloc (.cells #[.int .u8 7, .int .u8 8] 5)).alloc (.cells #[.int .u64 1, .slice (some ⟨w.heap.size, 0, none⟩) 2 2, .int .u64 254, .slice none 0 0] 39)) w' := by
  refine (stream_any (some ⟨w.heap.size + 1, 0, none⟩) 2 exL _ (by decide) (ex_recs w) ex_fits ex_small).mono ?_
  rintro e w' ⟨v, rfl, h1, h2⟩
  rw [ex_stream] at h1 ⊢
  obtain ⟨g, c, rfl, hc, hm, _, _⟩ := byt_pos h1 (by simp)
  exact ⟨g, c, rfl, Src.of_byt h1, hc, hm, by simpa using h2⟩
theorem records_ex (g c : Nat) (w : World) (hs : Src w (some ⟨g, 0, none⟩) [1, 2, 7, 8, 253, 0, 254, 0]) (hc : 8 ≤ c) (hm : c ≤ maxLen) : Calls Try.prog 19 #[.slice (some ⟨g, 0, none⟩) 8 c] w fun e w' => ∃ g2 c2 g3 c3, e = .returned (.tuple #[.slice (some ⟨g2, 0, none⟩) 2 c2, .int .i64 0]) ∧ w'.cell? ⟨g2, 0, none⟩ = some (.int .u64 1) ∧ w'.cell? ⟨g2, 1, none⟩ = some (.slice (some ⟨g3, 0, none⟩) 2 c3) ∧ w'.cell? ⟨g2, 2, none⟩ = some (.int .u64 254) ∧ Src w' (some ⟨g3, 0, none⟩) [7, 8] ∧ Below w.heap.size w w' := by
  refine (records_any (some ⟨g, 0, none⟩) c [1, 2, 7, 8, 253, 0, 254, 0] w hc hm hs (fun h => by cases h)).mono ?_
  rintro e w' ⟨v, rfl, h1, h2⟩
  rw [ex_records] at h1 ⊢
  obtain ⟨bs, hb, hown, hby⟩ := h1
  obtain ⟨x, hx⟩ : ∃ x, bs[0]? = some x := ⟨_, List.getElem?_eq_getElem (by rw [hb]; decide)⟩
  obtain ⟨y, hy⟩ : ∃ y, bs[1]? = some y := ⟨_, List.getElem?_eq_getElem (by rw [hb]; decide)⟩
  have hb0 := (hby 0 ⟨1, [7, 8]⟩ x rfl hx).1
  obtain ⟨g3, c3, hv3, _, _, _, _⟩ := byt_pos hb0 (by simp)
  obtain ⟨xa, xc⟩ := x
  simp only [Value.slice.injEq] at hv3
  obtain ⟨rfl, _, rfl⟩ := hv3
  have hs3 := Src.of_byt hb0
  rcases hown.2 with ⟨_, h0⟩ | ⟨g2, cap, cur, hv, hg, hh, hcc, hmm, hsz, ht⟩
  · cases h0
  · have hcell : ∀ k u, k < 4 → (recCells exL bs)[k]? = some u → w'.cell? ⟨g2, k, none⟩ = some u := fun k u hk hu => by
      rw [cell_of_row _ _ _ _ _ _ hh]
      have e : (cur.toList.take (exL.length * 2))[k]? = (recCells exL bs)[k]? := by rw [ht]
      rw [List.getElem?_take, if_pos (by simpa [exL] using hk), Array.getElem?_toList, hu] at e
      exact e
    have r0 := recCells_at exL bs 0 ⟨1, [7, 8]⟩ _ rfl hx
    have r1 := recCells_at exL bs 1 ⟨254, []⟩ _ rfl hy
    exact ⟨g2, cap, g3, _, by rw [hv]; rfl, hcell 0 _ (by omega) r0.1, hcell 1 _ (by omega) r0.2, hcell 2 _ (by omega) r1.1, hs3, h2⟩
set_option maxRecDepth 100000 in
set_option maxHeartbeats 4000000 in
theorem works_any (w : World) : Calls Try.prog 9 #[] w fun e w' => e = .returned (.bool true) ∧ Below w.heap.size w w' := by
  go_enter Try.func9, Try.ntmps9
  go_wp2_with (first
    | (go_at_call 17; (with_reducible refine Calls.mono (stream_ex _) ?_); rintro e w1 ⟨g1, c1, rfl, hs1, hc1, hm1, hb1⟩; have HB1 := Lib.hid hb1; have HS1 := Lib.hid hs1; have cv1 := conv_str w1 g1 _ c1 hs1 (by simp); clear hs1 hb1)
    | (go_at_call 19; (with_reducible refine Calls.mono (records_ex g1 c1 _ HS1.out hc1 hm1) ?_); rintro e w2 ⟨g2, c2, g3, c3, rfl, k0, k1, k2, hs2, hb2⟩; have HB2 := Lib.hid hb2; have cv2 := conv_str w2 g3 _ c3 hs2 (by simp); have cv3 := conv_str w2 g1 _ c1 (HS1.out.below hb2) (by simp); simp only [List.length_cons, List.length_nil] at cv2 cv3; clear hs2 hb2))
  go_ret
  have hz := HB1.out.size
  simp at hz
  exact ⟨rfl, ((((Below.refl _ _).alloc (Nat.le_refl _) _).alloc (by simp) _).trans (HB1.out.mono (by omega))).trans (HB2.out.mono (by omega))⟩
end Go.Proofs.Ytcdeggocnaodiaa
