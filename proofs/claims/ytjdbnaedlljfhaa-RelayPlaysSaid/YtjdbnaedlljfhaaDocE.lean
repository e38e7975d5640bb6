/- The document's relay: Close, where there is none. -/
import Derived.Test.YtjdbnaedlljfhaaDocD
namespace Go.Proofs.Ytjdbnaedlljfhaa
open Go.RowKit
theorem filter_erase : ∀ (L : List Circ) (p : Circ → Bool) (j : Nat) (k : Circ), L[j]? = some k → p k = true → (∀ t x, L[t]? = some x → p x = true → t = j) → L.filter (fun x => !p x) = L.eraseIdx j
  | [], _, j, k, h, _, _ => by simp at h
  | x :: L, p, 0, k, h, hp, hu => by
    simp at h; subst h
    have hall : ∀ y ∈ L, (!p y) = true := fun y hy => by
      obtain ⟨t, ht⟩ := List.mem_iff_getElem?.1 hy
      cases hpy : p y with
      | false => rfl
      | true => have := hu (t + 1) y (by simpa using ht) hpy; omega
    simp [hp, List.filter_eq_self.2 hall]
  | x :: L, p, j + 1, k, h, hp, hu => by
    have hx : p x = false := by
      cases hpx : p x with
      | false => rfl
      | true => have := hu 0 x rfl hpx; omega
    have ih := filter_erase L p j k (by simpa using h) hp (fun t y hy hpy => by have := hu (t + 1) y (by simpa using hy) hpy; omega)
    simp [hx, ih]
def CloseNo (w : World) (e : Ending) (w' : World) : Prop := e = .returned (.tuple #[Circ.zero.val, .int .i64 5]) ∧ Below w.heap.size w w'
set_option maxRecDepth 100000 in
set_option maxHeartbeats 600000 in
theorem docclose_none (mb base : Nat) (v : Value) (L : List Circ) (w : World) (h : DocAt w base mb v L) (hm : L.length ≤ 256) (n : ByteArray) (i : Int) (hx : findC (Circ.outIs n i) L 0 = none) : Calls Try.prog 21 #[.pointer (some ⟨mb, 0, none⟩), .string n, .int .i64 i] w (CloseNo w) := by
  have HD := Lib.hid h
  have DOUT : Hid (∀ W, DocAt W base mb v L → Calls Try.prog 19 #[.pointer (some ⟨mb, 0, none⟩), .string n, .int .i64 i] W fun e w' => e = .returned (.tuple #[.agg #[.string ⟨#[]⟩, .int .i64 0, .string ⟨#[]⟩, .int .i64 0, .int .i64 0, .int .i64 0, .int .i64 0, .int .i64 0, .string ⟨#[]⟩, .string ⟨#[]⟩], .bool false]) ∧ Below W.heap.size W w') := fun W hW => by
    have := docout_any mb base v L W hW hm n i
    rw [hx] at this
    exact this
  clear h hx
  go_enter Try.func21, Try.ntmps21
  go_wp2_with fail
  refine Calls.mono (DOUT.out _ (HD.out.below (below_new' w _))) ?_
  rintro e w1 ⟨rfl, hb1⟩
  have KB1 := Lib.hid ((hb1.block _ (by simp)).trans (heap_alloc_at w (.cells #[.string ⟨#[]⟩, .int .i64 0, .string ⟨#[]⟩, .int .i64 0, .int .i64 0, .int .i64 0, .int .i64 0, .int .i64 0, .string ⟨#[]⟩, .string ⟨#[]⟩] 49)))
  obtain ⟨⟨k0, k1, k2, k3, k4, k5, k6, k7, k8, k9⟩, kf⟩ := new_cells49 KB1.out
  have B1 := Lib.hid ((below_new' w (.cells #[.string ⟨#[]⟩, .int .i64 0, .string ⟨#[]⟩, .int .i64 0, .int .i64 0, .int .i64 0, .int .i64 0, .int .i64 0, .string ⟨#[]⟩, .string ⟨#[]⟩] 49)).trans (hb1.mono (by simp)))
  have zk : w.heap.size < w1.heap.size := lt_of_heap KB1.out
  clear hb1 HD DOUT k0 k1 k2 k3 k4 k5 k6 k7 k8 k9 kf
  go_upto_region 2 with fail
  have KB2 := Lib.hid (((below_new' w1 (.cells #[.string ⟨#[]⟩, .int .i64 0, .string ⟨#[]⟩, .int .i64 0, .int .i64 0, .int .i64 0, .int .i64 0, .int .i64 0, .string ⟨#[]⟩, .string ⟨#[]⟩] 49)).block _ zk).trans KB1.out)
  have B2 := Lib.hid (B1.out.alloc B1.out.size (.cells #[.string ⟨#[]⟩, .int .i64 0, .string ⟨#[]⟩, .int .i64 0, .int .i64 0, .int .i64 0, .int .i64 0, .int .i64 0, .string ⟨#[]⟩, .string ⟨#[]⟩] 49))
  generalize w1.alloc (.cells #[.string ⟨#[]⟩, .int .i64 0, .string ⟨#[]⟩, .int .i64 0, .int .i64 0, .int .i64 0, .int .i64 0, .int .i64 0, .string ⟨#[]⟩, .string ⟨#[]⟩] 49) = w2 at KB2 B2 ⊢
  obtain ⟨⟨k0, k1, k2, k3, k4, k5, k6, k7, k8, k9⟩, kf⟩ := new_cells49 KB2.out
  go_wp2_with fail
  have hbl := set10b (c := Circ.zero) B2.out (Nat.le_refl _)
  have hblk := set10t (c := Circ.zero) KB2.out
  simp only [Circ.zero] at hbl hblk
  generalize ((((((((((w2.setCell ⟨w.heap.size, 0, none⟩ (.string ⟨#[]⟩)).setCell ⟨w.heap.size, 1, none⟩ (.int .i64 0)).setCell ⟨w.heap.size, 2, none⟩ (.string ⟨#[]⟩)).setCell ⟨w.heap.size, 3, none⟩ (.int .i64 0)).setCell ⟨w.heap.size, 4, none⟩ (.int .i64 0)).setCell ⟨w.heap.size, 5, none⟩ (.int .i64 0)).setCell ⟨w.heap.size, 6, none⟩ (.int .i64 0)).setCell ⟨w.heap.size, 7, none⟩ (.int .i64 0)).setCell ⟨w.heap.size, 8, none⟩ (.string ⟨#[]⟩)).setCell ⟨w.heap.size, 9, none⟩ (.string ⟨#[]⟩)) = W' at hbl hblk ⊢
  obtain ⟨t0, t1, t2, t3, t4, t5, t6, t7, t8, t9⟩ := ten_t hblk
  exact bodyPost_ret (v := .tuple #[.agg #[.string ⟨#[]⟩, .int .i64 0, .string ⟨#[]⟩, .int .i64 0, .int .i64 0, .int .i64 0, .int .i64 0, .int .i64 0, .string ⟨#[]⟩, .string ⟨#[]⟩], .int .i64 5]) (by simp [results, Try.results21, go_sem, *]) rfl ⟨rfl, hbl⟩
end Go.Proofs.Ytjdbnaedlljfhaa
