/- Prune -/
import Derived.Test.YtnaodgljdbkmnaaDoorBookH
import Derived.Deep.RegionLaw
namespace Go.Proofs.YtnaodgljdbkmnaaDoor
set_option linter.unusedVariables false
open Go.RowKit
theorem nodup_filter_map {α β : Type} {f : α → β} {p : α → Bool} {l : List α} (h : (l.map f).Nodup) : ((l.filter p).map f).Nodup := List.Nodup.sublist (List.filter_sublist.map f) h
theorem book_prune {base bk mm : Nat} {v : Value} {L : List Ent} {now : Int} {w w1 w2 : World} {y : Ending} (h : BookAt w base bk mm v L) (hB : Below w.heap.size w w1) (hd : DelPost base mm v now L w1 y w2) :
    ∃ v', y = .returned v' ∧ w2.heap[bk]? = some (.cells #[.map (some mm), v] 90 (0, 0)) ∧ BookAt (w2.setCell ⟨bk, 1, none⟩ v') base bk mm v' (L.filter (kp now)) ∧ (∀ k, BkS bk mm v' (L.filter (kp now)) k → BkS bk mm v L k ∨ w.heap.size ≤ k) ∧ Fr (BkS bk mm v L) w (w2.setCell ⟨bk, 1, none⟩ v') ∧ Fr (fun k => k = mm ∨ v.ownBlock = some k) w1 w2 := by
  obtain ⟨v', rfl, hob, hown, hmap, hf⟩ := hd
  have h1 := h.below hB
  obtain ⟨es0, c0, hm0, _⟩ := h1.map
  have hbm : bk ≠ mm := fun e => map_not_cells hm0 h1.bkk e.symm
  have hbo : ¬ v.ownBlock = some bk := fun e => own_ne h1.own h1.bkk (by decide) bk e rfl
  have hb2 : w2.heap[bk]? = some (.cells #[.map (some mm), v] 90 (0, 0)) := (hf.block bk (lt_of_heap h1.bkk) (by rintro (h | h) <;> contradiction)).trans h1.bkk
  have hbase : base ≤ w.heap.size := by have := h.h1; have := lt_of_heap h.bkk; omega
  have set_o : ∀ k, k ≠ bk → (w2.setCell ⟨bk, 1, none⟩ v').heap[k]? = w2.heap[k]? := fun k hk => heap_setCell_other _ _ _ _ hk
  refine ⟨v', rfl, hb2, { bkk := ?_, map := ?_, own := ?_, bills := ?_, far := ?_, uni := ?_, few := ?_, ok := ?_, h1 := h.h1, h2 := h.h2 }, ?_, ?_, hf⟩
  · rw [heap_setCell_same _ bk 1 _ 90 _ hb2]; rfl
  · obtain ⟨es, c, q1, q2⟩ := hmap
    exact ⟨es, c, (set_o mm hbm.symm).trans q1, q2⟩
  · exact own_blocks hown fun k hk => set_o k (fun e => hbo (by rw [← hob, hk, e]))
  · intro e he
    have he' := (List.mem_filter.1 he).1
    obtain ⟨t1, t2⟩ := h1.bills e he'
    refine ⟨?_, t2⟩
    rw [set_o _ (type_ne t1 h1.bkk (by decide))]
    refine (hf.block e.1 (lt_of_heap t1) ?_).trans t1
    rintro (hq | hq)
    · exact map_not_cells hm0 t1 hq.symm
    · exact own_ne h1.own t1 (by decide) _ hq rfl
  · exact nodup_filter_map h.far
  · exact nodup_filter_map h.uni
  · exact Nat.le_trans (List.length_filter_le _ _) h.few
  · intro e he; exact h.ok e (List.mem_filter.1 he).1
  · intro k hk
    rcases hk with hk | hk | hk | hk
    · exact .inl (.inl hk)
    · exact .inl (.inr (.inl hk))
    · exact .inl (.inr (.inr (.inl (by rw [← hob]; exact hk))))
    · obtain ⟨e, he, rfl⟩ := List.mem_map.1 hk
      exact .inl (.inr (.inr (.inr (List.mem_map.2 ⟨e, (List.mem_filter.1 he).1, rfl⟩))))
  · refine Fr.set ?_ bk 1 _ (.inl rfl)
    refine (Fr.below hB).trans' hf (fun i _ hi => ?_)
    rcases hi with hi | hi
    · exact .inr (.inl hi)
    · exact .inr (.inr (.inl hi))
set_option maxRecDepth 100000 in
set_option maxHeartbeats 8000000 in
theorem prune_any (base bk mm : Nat) (v : Value) (L : List Ent) (w : World) (h : BookAt w base bk mm v L) (now : Int) : Calls Tryd.prog 32 #[.pointer (some ⟨bk, 0, none⟩), .int .i64 now] w (BTurn base bk mm v L (L.filter (kp now)) (.int .i64 ((L.length : Int) - ((L.filter (kp now)).length : Int))) w) := by
  obtain ⟨va, vc, rfl⟩ := own_slice h.own
  have HH := Lib.hid h
  have hfew := h.few
  clear h
  go_enter Tryd.func32, Tryd.ntmps32
  go_upto_region 1 with fail
  have q2 := heap_alloc_at w (.cells #[.pointer (some ⟨bk, 0, none⟩)] 47)
  have q3 : ((w.alloc (.cells #[.pointer (some ⟨bk, 0, none⟩)] 47)).alloc (.cells #[.int .i64 now] 2)).heap[w.heap.size + 1]? = some (.cells #[.int .i64 now] 2 (0, 0)) := by
    have := heap_alloc_at (w.alloc (.cells #[.pointer (some ⟨bk, 0, none⟩)] 47)) (.cells #[.int .i64 now] 2)
    simpa using this
  have b1 := below_new' w (.cells #[.pointer (some ⟨bk, 0, none⟩)] 47)
  have b2 := below_new' (w.alloc (.cells #[.pointer (some ⟨bk, 0, none⟩)] 47)) (.cells #[.int .i64 now] 2)
  have Q2 := Lib.hid ((b2.block _ (lt_of_heap q2)).trans q2)
  have Q3 := Lib.hid q3
  have B1 := Lib.hid (b1.trans (b2.mono b1.size))
  clear q2 q3 b1 b2
  generalize (w.alloc (.cells #[.pointer (some ⟨bk, 0, none⟩)] 47)).alloc (.cells #[.int .i64 now] 2) = w1 at Q2 Q3 B1 ⊢
  obtain ⟨r2, hr2⟩ : ∃ r2, w.heap.size = r2 := ⟨_, rfl⟩
  have HR2 := Lib.hid hr2
  rw [hr2] at Q2 Q3 ⊢
  obtain ⟨r3, hr3⟩ : ∃ r3, r2 + 1 = r3 := ⟨_, rfl⟩
  rw [hr3] at Q3 ⊢
  clear hr2 hr3
  have h1 := HH.out.below B1.out
  have k2 : w1.cell? ⟨r2, 0, none⟩ = some (.pointer (some ⟨bk, 0, none⟩)) := by rw [cell_of_row _ _ _ _ _ _ Q2.out]; rfl
  obtain ⟨c0, c1⟩ := h1.cells
  clear h1 c0
  go_upto_region 4 with fail
  have HD : Hid (Calls Tryd.prog 52 #[.slice va L.length vc, .func (.func 53) #[] #[.pointer (some ⟨r2, 0, none⟩), .pointer (some ⟨r3, 0, none⟩)]] w1.drew (DelPost base mm (.slice va L.length vc) now L w1.drew)) := delf_any base bk mm r2 r3 va vc L now w1.drew (HH.out.below B1.out.drew) Q2.out Q3.out
  have HKP : Hid (∀ y w2, DelPost base mm (.slice va L.length vc) now L w1.drew y w2 → ∃ v' : Value, y = .returned v' ∧ w2.cell? ⟨r2, 0, none⟩ = some (.pointer (some ⟨bk, 0, none⟩)) ∧ w2.cell? ⟨bk, 1, none⟩ = some (.slice va L.length vc) ∧ w2.frozen? ⟨bk, 1, none⟩ = false ∧ Hid ((w2.setCell ⟨bk, 1, none⟩ v').cell? ⟨r2, 0, none⟩ = some (.pointer (some ⟨bk, 0, none⟩)) ∧ (w2.setCell ⟨bk, 1, none⟩ v').cell? ⟨bk, 1, none⟩ = some v') ∧ Hid (BTurn base bk mm (.slice va L.length vc) L (L.filter (kp now)) (.int .i64 ((L.length : Int) - ((L.filter (kp now)).length : Int))) w (.returned (.int .i64 ((L.length : Int) - ((L.filter (kp now)).length : Int)))) (w2.setCell ⟨bk, 1, none⟩ v')) ∧ ∃ va' vc', v' = .slice va' (L.filter (kp now)).length vc') := by
    intro y w2 hd
    obtain ⟨v', e1, e2, e3, e4, e5, e6⟩ := book_prune HH.out B1.out.drew hd
    have h1 := HH.out.below B1.out
    obtain ⟨es0, c0, hm0, _⟩ := h1.map
    have hr2 := (e6.block r2 (lt_of_heap Q2.out) (by rintro (hq | hq); exact map_not_cells hm0 Q2.out hq.symm; exact own_ne h1.own Q2.out (by decide) _ hq rfl)).trans Q2.out
    refine ⟨v', e1, ?_, ?_, frozen_of_row _ _ 1 _ _ e2, ⟨?_, e3.cells.2⟩, ⟨rfl, v', e3, e4, e5⟩, own_slice e3.own⟩
    · rw [cell_of_row _ _ _ _ _ _ hr2]; rfl
    · rw [cell_of_row _ _ _ _ _ _ e2]; rfl
    · have h5 : (w2.setCell ⟨bk, 1, none⟩ v').heap[r2]? = _ := (heap_setCell_other _ _ _ _ (type_ne hr2 e2 (by decide))).trans hr2
      rw [cell_of_row _ _ _ _ _ _ h5]; rfl
  go_cut [19] from 13 to 22 (fun p wx => ∃ va' vc', p = .slice va' (L.filter (kp now)).length vc' ∧ wx.cell? ⟨r2, 0, none⟩ = some (.pointer (some ⟨bk, 0, none⟩)) ∧ wx.cell? ⟨bk, 1, none⟩ = some (.slice va' (L.filter (kp now)).length vc') ∧ Hid (BTurn base bk mm (.slice va L.length vc) L (L.filter (kp now)) (.int .i64 ((L.length : Int) - ((L.filter (kp now)).length : Int))) w (.returned (.int .i64 ((L.length : Int) - ((L.filter (kp now)).length : Int)))) wx))
  case first =>
    go_region_law ((go_simp; go_at_call 52; (with_reducible refine Calls.mono HD.out ?_); intro y w2 hd; obtain ⟨v', rfl, f2, f3, f4, HC, HT, va', vc', rfl⟩ := HKP.out y w2 hd; clear hd))
    all_goals
      go_wp2_with fail
      go_meet
      exact ⟨va', vc', rfl, HC.out.1, HC.out.2, HT⟩
  case rest =>
    obtain ⟨va', vc', rfl, d2, d3, HT⟩ := hcut
    have hfl : (L.filter (kp now)).length ≤ L.length := List.length_filter_le _ _
    have hml : ((L.filter (kp now)).length : Int) ≤ (L.length : Int) := by omega
    clear hfl
    go_wp2_with fail
    go_ret
    exact HT.out
end Go.Proofs.YtnaodgljdbkmnaaDoor
