/- The document's relay: Open, where the names may be. -/
import Derived.Test.YtjdbnaedlljfhaaDocB
namespace Go.Proofs.Ytjdbnaedlljfhaa
open Go.RowKit
theorem ten_c {w : World} {b : Nat} {t : TypeId} {c : Circ} (h : w.heap[b]? = some (.cells #[.string c.ic, .int .i64 c.ii, .string c.oc, .int .i64 c.oi, .int .i64 c.ia, .int .i64 c.oa, .int .i64 c.ie, .int .i64 c.oe, .string c.hash, .string c.sh] t (0, 0))) : w.cell? ⟨b, 0, none⟩ = some (.string c.ic) ∧ w.cell? ⟨b, 1, none⟩ = some (.int .i64 c.ii) ∧ w.cell? ⟨b, 2, none⟩ = some (.string c.oc) ∧ w.cell? ⟨b, 3, none⟩ = some (.int .i64 c.oi) ∧ w.cell? ⟨b, 4, none⟩ = some (.int .i64 c.ia) ∧ w.cell? ⟨b, 5, none⟩ = some (.int .i64 c.oa) ∧ w.cell? ⟨b, 6, none⟩ = some (.int .i64 c.ie) ∧ w.cell? ⟨b, 7, none⟩ = some (.int .i64 c.oe) ∧ w.cell? ⟨b, 8, none⟩ = some (.string c.hash) ∧ w.cell? ⟨b, 9, none⟩ = some (.string c.sh) := by simp [World.cell?, h]
theorem may_parts {n : ByteArray} {i : Int} (h : mayB n i = true) : namedB n = true ∧ decide (i < 0) = false := by
  rw [mayB_named, Bool.and_eq_true, decide_eq_true_eq] at h
  exact ⟨h.1, by simpa using h.2⟩
set_option maxRecDepth 100000 in
set_option maxHeartbeats 2000000 in
theorem docopen_ss (mb base : Nat) (v : Value) (L : List Circ) (w : World) (h : DocAt w base mb v L) (hm : L.length ≤ 256) (c : Circ) (hc : c.fits) (ma : mayB c.ic c.ii = true) (mo : mayB c.oc c.oi = true) (x : Nat × Circ) (hx : findC (Circ.inIs c.ic c.ii) L 0 = some x) (y : Nat × Circ) (hy : findC (Circ.outIs c.oc c.oi) L 0 = some y) : Calls Try.prog 23 #[.pointer (some ⟨mb, 0, none⟩), .agg #[.string c.ic, .int .i64 c.ii, .string c.oc, .int .i64 c.oi, .int .i64 c.ia, .int .i64 c.oa, .int .i64 c.ie, .int .i64 c.oe, .string c.hash, .string c.sh]] w fun e w' => e = .returned (.int .i64 6) ∧ Below w.heap.size w w' := by
  have NA := Lib.hid (named_b c.ic true (may_parts ma).1 hc.1)
  have NB := Lib.hid (named_b c.oc true (may_parts mo).1 hc.2)
  have px := (may_parts ma).2
  have py := (may_parts mo).2
  obtain ⟨va, vc, rfl⟩ := own_slice h.own
  have HD := Lib.hid h
  have hmb : mb < w.heap.size := lt_of_heap h.mbk
  have cm : w.cell? ⟨mb, 0, none⟩ = some (.slice va L.length vc) := by simp [World.cell?, h.mbk]
  have DIN : Hid (∀ W, DocAt W base mb (.slice va L.length vc) L → Calls Try.prog 16 #[.pointer (some ⟨mb, 0, none⟩), .string c.ic, .int .i64 c.ii] W fun e w' => e = .returned (.tuple #[.agg #[.string x.2.ic, .int .i64 x.2.ii, .string x.2.oc, .int .i64 x.2.oi, .int .i64 x.2.ia, .int .i64 x.2.oa, .int .i64 x.2.ie, .int .i64 x.2.oe, .string x.2.hash, .string x.2.sh], .bool true]) ∧ Below W.heap.size W w') := fun W hW => by
    have := docin_any mb base _ L W hW hm c.ic c.ii
    rw [hx] at this
    exact this
  have DOUT : Hid (∀ W, DocAt W base mb (.slice va L.length vc) L → Calls Try.prog 19 #[.pointer (some ⟨mb, 0, none⟩), .string c.oc, .int .i64 c.oi] W fun e w' => e = .returned (.tuple #[.agg #[.string y.2.ic, .int .i64 y.2.ii, .string y.2.oc, .int .i64 y.2.oi, .int .i64 y.2.ia, .int .i64 y.2.oa, .int .i64 y.2.ie, .int .i64 y.2.oe, .string y.2.hash, .string y.2.sh], .bool true]) ∧ Below W.heap.size W w') := fun W hW => by
    have := docout_any mb base _ L W hW hm c.oc c.oi
    rw [hy] at this
    exact this
  clear h hx hy ma mo hc
  go_enter Try.func23, Try.ntmps23
  go_wp2_with (first
    | (go_at_call 41; (with_reducible refine Calls.mono (NA.out _) ?_); rintro e w1 ⟨rfl, rfl⟩)
    | (go_at_call 41; (with_reducible refine Calls.mono (NB.out _) ?_); rintro e w1 ⟨rfl, rfl⟩)
    | (go_at_call 16; (with_reducible refine Calls.mono (DIN.out _ (HD.out.below (below_new' w _))) ?_); rintro e w1 ⟨rfl, hb1⟩; obtain ⟨hc1, hf1⟩ := bcell hb1; have B1 := Lib.hid ((below_new' w (.cells #[.string c.ic, .int .i64 c.ii, .string c.oc, .int .i64 c.oi, .int .i64 c.ia, .int .i64 c.oa, .int .i64 c.ie, .int .i64 c.oe, .string c.hash, .string c.sh] 49)).trans (hb1.mono (by simp))); have z1 := hb1.size; (try simp only [World.size_alloc] at z1); have cm1 := cell_later B1.out cm; have KB1 := Lib.hid ((hb1.block _ (by simp)).trans (heap_alloc_at w (.cells #[.string c.ic, .int .i64 c.ii, .string c.oc, .int .i64 c.oi, .int .i64 c.ia, .int .i64 c.oa, .int .i64 c.ie, .int .i64 c.oe, .string c.hash, .string c.sh] 49))); obtain ⟨k0, k1, k2, k3, k4, k5, k6, k7, k8, k9⟩ := ten_c KB1.out; have zk : w.heap.size < w1.heap.size := (by omega); have zm : mb < w1.heap.size := (by omega); clear hc1 hf1)
    | (go_at_call 19; (with_reducible refine Calls.mono (DOUT.out _ (HD.out.below (B1.out.alloc B1.out.size _))) ?_); rintro e w2 ⟨rfl, hb2⟩; obtain ⟨hc2, hf2⟩ := bcell hb2; have B2 := Lib.hid ((B1.out.alloc B1.out.size (.cells #[.string x.2.ic, .int .i64 x.2.ii, .string x.2.oc, .int .i64 x.2.oi, .int .i64 x.2.ia, .int .i64 x.2.oa, .int .i64 x.2.ie, .int .i64 x.2.oe, .string x.2.hash, .string x.2.sh] 49)).trans (hb2.mono (by have := B1.out.size; simp; omega))); have z2 := hb2.size; (try simp only [World.size_alloc] at z2); have cm2 := cell_later B2.out cm; have zm2 : mb < w2.heap.size := (by omega); clear hc2 hf2))
  go_ret
  exact ⟨rfl, B2.out.alloc B2.out.size _⟩
set_option maxRecDepth 100000 in
set_option maxHeartbeats 2000000 in
theorem docopen_sn (mb base : Nat) (v : Value) (L : List Circ) (w : World) (h : DocAt w base mb v L) (hm : L.length ≤ 256) (c : Circ) (hc : c.fits) (ma : mayB c.ic c.ii = true) (mo : mayB c.oc c.oi = true) (x : Nat × Circ) (hx : findC (Circ.inIs c.ic c.ii) L 0 = some x) (hy : findC (Circ.outIs c.oc c.oi) L 0 = none) : Calls Try.prog 23 #[.pointer (some ⟨mb, 0, none⟩), .agg #[.string c.ic, .int .i64 c.ii, .string c.oc, .int .i64 c.oi, .int .i64 c.ia, .int .i64 c.oa, .int .i64 c.ie, .int .i64 c.oe, .string c.hash, .string c.sh]] w fun e w' => e = .returned (.int .i64 6) ∧ Below w.heap.size w w' := by
  have NA := Lib.hid (named_b c.ic true (may_parts ma).1 hc.1)
  have NB := Lib.hid (named_b c.oc true (may_parts mo).1 hc.2)
  have px := (may_parts ma).2
  have py := (may_parts mo).2
  obtain ⟨va, vc, rfl⟩ := own_slice h.own
  have HD := Lib.hid h
  have hmb : mb < w.heap.size := lt_of_heap h.mbk
  have cm : w.cell? ⟨mb, 0, none⟩ = some (.slice va L.length vc) := by simp [World.cell?, h.mbk]
  have DIN : Hid (∀ W, DocAt W base mb (.slice va L.length vc) L → Calls Try.prog 16 #[.pointer (some ⟨mb, 0, none⟩), .string c.ic, .int .i64 c.ii] W fun e w' => e = .returned (.tuple #[.agg #[.string x.2.ic, .int .i64 x.2.ii, .string x.2.oc, .int .i64 x.2.oi, .int .i64 x.2.ia, .int .i64 x.2.oa, .int .i64 x.2.ie, .int .i64 x.2.oe, .string x.2.hash, .string x.2.sh], .bool true]) ∧ Below W.heap.size W w') := fun W hW => by
    have := docin_any mb base _ L W hW hm c.ic c.ii
    rw [hx] at this
    exact this
  have DOUT : Hid (∀ W, DocAt W base mb (.slice va L.length vc) L → Calls Try.prog 19 #[.pointer (some ⟨mb, 0, none⟩), .string c.oc, .int .i64 c.oi] W fun e w' => e = .returned (.tuple #[.agg #[.string ⟨#[]⟩, .int .i64 0, .string ⟨#[]⟩, .int .i64 0, .int .i64 0, .int .i64 0, .int .i64 0, .int .i64 0, .string ⟨#[]⟩, .string ⟨#[]⟩], .bool false]) ∧ Below W.heap.size W w') := fun W hW => by
    have := docout_any mb base _ L W hW hm c.oc c.oi
    rw [hy] at this
    exact this
  clear h hx hy ma mo hc
  go_enter Try.func23, Try.ntmps23
  go_wp2_with (first
    | (go_at_call 41; (with_reducible refine Calls.mono (NA.out _) ?_); rintro e w1 ⟨rfl, rfl⟩)
    | (go_at_call 41; (with_reducible refine Calls.mono (NB.out _) ?_); rintro e w1 ⟨rfl, rfl⟩)
    | (go_at_call 16; (with_reducible refine Calls.mono (DIN.out _ (HD.out.below (below_new' w _))) ?_); rintro e w1 ⟨rfl, hb1⟩; obtain ⟨hc1, hf1⟩ := bcell hb1; have B1 := Lib.hid ((below_new' w (.cells #[.string c.ic, .int .i64 c.ii, .string c.oc, .int .i64 c.oi, .int .i64 c.ia, .int .i64 c.oa, .int .i64 c.ie, .int .i64 c.oe, .string c.hash, .string c.sh] 49)).trans (hb1.mono (by simp))); have z1 := hb1.size; (try simp only [World.size_alloc] at z1); have cm1 := cell_later B1.out cm; have KB1 := Lib.hid ((hb1.block _ (by simp)).trans (heap_alloc_at w (.cells #[.string c.ic, .int .i64 c.ii, .string c.oc, .int .i64 c.oi, .int .i64 c.ia, .int .i64 c.oa, .int .i64 c.ie, .int .i64 c.oe, .string c.hash, .string c.sh] 49))); obtain ⟨k0, k1, k2, k3, k4, k5, k6, k7, k8, k9⟩ := ten_c KB1.out; have zk : w.heap.size < w1.heap.size := (by omega); have zm : mb < w1.heap.size := (by omega); clear hc1 hf1)
    | (go_at_call 19; (with_reducible refine Calls.mono (DOUT.out _ (HD.out.below (B1.out.alloc B1.out.size _))) ?_); rintro e w2 ⟨rfl, hb2⟩; obtain ⟨hc2, hf2⟩ := bcell hb2; have B2 := Lib.hid ((B1.out.alloc B1.out.size (.cells #[.string x.2.ic, .int .i64 x.2.ii, .string x.2.oc, .int .i64 x.2.oi, .int .i64 x.2.ia, .int .i64 x.2.oa, .int .i64 x.2.ie, .int .i64 x.2.oe, .string x.2.hash, .string x.2.sh] 49)).trans (hb2.mono (by have := B1.out.size; simp; omega))); have z2 := hb2.size; (try simp only [World.size_alloc] at z2); have cm2 := cell_later B2.out cm; have zm2 : mb < w2.heap.size := (by omega); clear hc2 hf2))
  go_ret
  exact ⟨rfl, B2.out.alloc B2.out.size _⟩
set_option maxRecDepth 100000 in
set_option maxHeartbeats 2000000 in
theorem docopen_ns (mb base : Nat) (v : Value) (L : List Circ) (w : World) (h : DocAt w base mb v L) (hm : L.length ≤ 256) (c : Circ) (hc : c.fits) (ma : mayB c.ic c.ii = true) (mo : mayB c.oc c.oi = true) (hx : findC (Circ.inIs c.ic c.ii) L 0 = none) (y : Nat × Circ) (hy : findC (Circ.outIs c.oc c.oi) L 0 = some y) : Calls Try.prog 23 #[.pointer (some ⟨mb, 0, none⟩), .agg #[.string c.ic, .int .i64 c.ii, .string c.oc, .int .i64 c.oi, .int .i64 c.ia, .int .i64 c.oa, .int .i64 c.ie, .int .i64 c.oe, .string c.hash, .string c.sh]] w fun e w' => e = .returned (.int .i64 6) ∧ Below w.heap.size w w' := by
  have NA := Lib.hid (named_b c.ic true (may_parts ma).1 hc.1)
  have NB := Lib.hid (named_b c.oc true (may_parts mo).1 hc.2)
  have px := (may_parts ma).2
  have py := (may_parts mo).2
  obtain ⟨va, vc, rfl⟩ := own_slice h.own
  have HD := Lib.hid h
  have hmb : mb < w.heap.size := lt_of_heap h.mbk
  have cm : w.cell? ⟨mb, 0, none⟩ = some (.slice va L.length vc) := by simp [World.cell?, h.mbk]
  have DIN : Hid (∀ W, DocAt W base mb (.slice va L.length vc) L → Calls Try.prog 16 #[.pointer (some ⟨mb, 0, none⟩), .string c.ic, .int .i64 c.ii] W fun e w' => e = .returned (.tuple #[.agg #[.string ⟨#[]⟩, .int .i64 0, .string ⟨#[]⟩, .int .i64 0, .int .i64 0, .int .i64 0, .int .i64 0, .int .i64 0, .string ⟨#[]⟩, .string ⟨#[]⟩], .bool false]) ∧ Below W.heap.size W w') := fun W hW => by
    have := docin_any mb base _ L W hW hm c.ic c.ii
    rw [hx] at this
    exact this
  have DOUT : Hid (∀ W, DocAt W base mb (.slice va L.length vc) L → Calls Try.prog 19 #[.pointer (some ⟨mb, 0, none⟩), .string c.oc, .int .i64 c.oi] W fun e w' => e = .returned (.tuple #[.agg #[.string y.2.ic, .int .i64 y.2.ii, .string y.2.oc, .int .i64 y.2.oi, .int .i64 y.2.ia, .int .i64 y.2.oa, .int .i64 y.2.ie, .int .i64 y.2.oe, .string y.2.hash, .string y.2.sh], .bool true]) ∧ Below W.heap.size W w') := fun W hW => by
    have := docout_any mb base _ L W hW hm c.oc c.oi
    rw [hy] at this
    exact this
  clear h hx hy ma mo hc
  go_enter Try.func23, Try.ntmps23
  go_wp2_with (first
    | (go_at_call 41; (with_reducible refine Calls.mono (NA.out _) ?_); rintro e w1 ⟨rfl, rfl⟩)
    | (go_at_call 41; (with_reducible refine Calls.mono (NB.out _) ?_); rintro e w1 ⟨rfl, rfl⟩)
    | (go_at_call 16; (with_reducible refine Calls.mono (DIN.out _ (HD.out.below (below_new' w _))) ?_); rintro e w1 ⟨rfl, hb1⟩; obtain ⟨hc1, hf1⟩ := bcell hb1; have B1 := Lib.hid ((below_new' w (.cells #[.string c.ic, .int .i64 c.ii, .string c.oc, .int .i64 c.oi, .int .i64 c.ia, .int .i64 c.oa, .int .i64 c.ie, .int .i64 c.oe, .string c.hash, .string c.sh] 49)).trans (hb1.mono (by simp))); have z1 := hb1.size; (try simp only [World.size_alloc] at z1); have cm1 := cell_later B1.out cm; have KB1 := Lib.hid ((hb1.block _ (by simp)).trans (heap_alloc_at w (.cells #[.string c.ic, .int .i64 c.ii, .string c.oc, .int .i64 c.oi, .int .i64 c.ia, .int .i64 c.oa, .int .i64 c.ie, .int .i64 c.oe, .string c.hash, .string c.sh] 49))); obtain ⟨k0, k1, k2, k3, k4, k5, k6, k7, k8, k9⟩ := ten_c KB1.out; have zk : w.heap.size < w1.heap.size := (by omega); have zm : mb < w1.heap.size := (by omega); clear hc1 hf1)
    | (go_at_call 19; (with_reducible refine Calls.mono (DOUT.out _ (HD.out.below (B1.out.alloc B1.out.size _))) ?_); rintro e w2 ⟨rfl, hb2⟩; obtain ⟨hc2, hf2⟩ := bcell hb2; have B2 := Lib.hid ((B1.out.alloc B1.out.size (.cells #[.string ⟨#[]⟩, .int .i64 0, .string ⟨#[]⟩, .int .i64 0, .int .i64 0, .int .i64 0, .int .i64 0, .int .i64 0, .string ⟨#[]⟩, .string ⟨#[]⟩] 49)).trans (hb2.mono (by have := B1.out.size; simp; omega))); have z2 := hb2.size; (try simp only [World.size_alloc] at z2); have cm2 := cell_later B2.out cm; have zm2 : mb < w2.heap.size := (by omega); clear hc2 hf2))
  go_ret
  exact ⟨rfl, B2.out.alloc B2.out.size _⟩
set_option maxRecDepth 100000 in
set_option maxHeartbeats 2000000 in
theorem docopen_full (mb base : Nat) (v : Value) (L : List Circ) (w : World) (h : DocAt w base mb v L) (hm : L.length ≤ 256) (c : Circ) (hc : c.fits) (ma : mayB c.ic c.ii = true) (mo : mayB c.oc c.oi = true) (hx : findC (Circ.inIs c.ic c.ii) L 0 = none) (hy : findC (Circ.outIs c.oc c.oi) L 0 = none) (hf : 256 ≤ L.length) : Calls Try.prog 23 #[.pointer (some ⟨mb, 0, none⟩), .agg #[.string c.ic, .int .i64 c.ii, .string c.oc, .int .i64 c.oi, .int .i64 c.ia, .int .i64 c.oa, .int .i64 c.ie, .int .i64 c.oe, .string c.hash, .string c.sh]] w fun e w' => e = .returned (.int .i64 3) ∧ Below w.heap.size w w' := by
  have NA := Lib.hid (named_b c.ic true (may_parts ma).1 hc.1)
  have NB := Lib.hid (named_b c.oc true (may_parts mo).1 hc.2)
  have px := (may_parts ma).2
  have py := (may_parts mo).2
  obtain ⟨va, vc, rfl⟩ := own_slice h.own
  have HD := Lib.hid h
  have hmb : mb < w.heap.size := lt_of_heap h.mbk
  have cm : w.cell? ⟨mb, 0, none⟩ = some (.slice va L.length vc) := by simp [World.cell?, h.mbk]
  have DIN : Hid (∀ W, DocAt W base mb (.slice va L.length vc) L → Calls Try.prog 16 #[.pointer (some ⟨mb, 0, none⟩), .string c.ic, .int .i64 c.ii] W fun e w' => e = .returned (.tuple #[.agg #[.string ⟨#[]⟩, .int .i64 0, .string ⟨#[]⟩, .int .i64 0, .int .i64 0, .int .i64 0, .int .i64 0, .int .i64 0, .string ⟨#[]⟩, .string ⟨#[]⟩], .bool false]) ∧ Below W.heap.size W w') := fun W hW => by
    have := docin_any mb base _ L W hW hm c.ic c.ii
    rw [hx] at this
    exact this
  have DOUT : Hid (∀ W, DocAt W base mb (.slice va L.length vc) L → Calls Try.prog 19 #[.pointer (some ⟨mb, 0, none⟩), .string c.oc, .int .i64 c.oi] W fun e w' => e = .returned (.tuple #[.agg #[.string ⟨#[]⟩, .int .i64 0, .string ⟨#[]⟩, .int .i64 0, .int .i64 0, .int .i64 0, .int .i64 0, .int .i64 0, .string ⟨#[]⟩, .string ⟨#[]⟩], .bool false]) ∧ Below W.heap.size W w') := fun W hW => by
    have := docout_any mb base _ L W hW hm c.oc c.oi
    rw [hy] at this
    exact this
  clear h hx hy ma mo hc
  have hfi : (256 : Int) ≤ (L.length : Int) := by omega
  go_enter Try.func23, Try.ntmps23
  go_wp2_with (first
    | (go_at_call 41; (with_reducible refine Calls.mono (NA.out _) ?_); rintro e w1 ⟨rfl, rfl⟩)
    | (go_at_call 41; (with_reducible refine Calls.mono (NB.out _) ?_); rintro e w1 ⟨rfl, rfl⟩)
    | (go_at_call 16; (with_reducible refine Calls.mono (DIN.out _ (HD.out.below (below_new' w _))) ?_); rintro e w1 ⟨rfl, hb1⟩; obtain ⟨hc1, hf1⟩ := bcell hb1; have B1 := Lib.hid ((below_new' w (.cells #[.string c.ic, .int .i64 c.ii, .string c.oc, .int .i64 c.oi, .int .i64 c.ia, .int .i64 c.oa, .int .i64 c.ie, .int .i64 c.oe, .string c.hash, .string c.sh] 49)).trans (hb1.mono (by simp))); have z1 := hb1.size; (try simp only [World.size_alloc] at z1); have cm1 := cell_later B1.out cm; have KB1 := Lib.hid ((hb1.block _ (by simp)).trans (heap_alloc_at w (.cells #[.string c.ic, .int .i64 c.ii, .string c.oc, .int .i64 c.oi, .int .i64 c.ia, .int .i64 c.oa, .int .i64 c.ie, .int .i64 c.oe, .string c.hash, .string c.sh] 49))); obtain ⟨k0, k1, k2, k3, k4, k5, k6, k7, k8, k9⟩ := ten_c KB1.out; have zk : w.heap.size < w1.heap.size := (by omega); have zm : mb < w1.heap.size := (by omega); clear hc1 hf1)
    | (go_at_call 19; (with_reducible refine Calls.mono (DOUT.out _ (HD.out.below (B1.out.alloc B1.out.size _))) ?_); rintro e w2 ⟨rfl, hb2⟩; obtain ⟨hc2, hf2⟩ := bcell hb2; have B2 := Lib.hid ((B1.out.alloc B1.out.size (.cells #[.string ⟨#[]⟩, .int .i64 0, .string ⟨#[]⟩, .int .i64 0, .int .i64 0, .int .i64 0, .int .i64 0, .int .i64 0, .string ⟨#[]⟩, .string ⟨#[]⟩] 49)).trans (hb2.mono (by have := B1.out.size; simp; omega))); have z2 := hb2.size; (try simp only [World.size_alloc] at z2); have cm2 := cell_later B2.out cm; have zm2 : mb < w2.heap.size := (by omega); clear hc2 hf2))
  go_ret
  exact ⟨rfl, B2.out.alloc B2.out.size _⟩
end Go.Proofs.Ytjdbnaedlljfhaa
