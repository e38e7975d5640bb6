/- The relay: Open. -/
import Derived.Test.YtjdbnaedlljfhaaRel1
namespace Go.Proofs.Ytjdbnaedlljfhaa
open Go.RowKit

def mayB (n : ByteArray) (i : Int) : Bool := !n.toList.isEmpty && decide (n.size ≤ 100) && decide (0 ≤ i)
theorem ret_b {a b : Bool} (h : a = b) : Ending.returned (.bool a) = .returned (.bool b) := by rw [h]
set_option maxHeartbeats 1000000 in
theorem may_any (n : ByteArray) (i : Int) (w : World) (hn : n.size ≤ maxLen) : Calls Try.prog 40 #[.agg #[.string n, .int .i64 i]] w fun e w' => e = .returned (.bool (mayB n i)) ∧ Below w.heap.size w w' := by
  unfold maxLen at hn
  go_enter Try.func40, Try.ntmps40
  go_wp2
  all_goals
    go_ret
    refine ⟨ret_b ?_, (by (repeat' (first | (with_reducible exact Below.refl _ _) | (with_reducible refine Below.alloc ?_ ?_ _) | (with_reducible refine Below.drew ?_) | (with_reducible refine Below.setCell ?_ ?_ _) | (with_reducible refine below_drewN ?_ _) | (refine Below.trans ?_ (Below.mono (by assumption) ?_)) | go_size)))⟩
    unfold mayB
    first
      | (have h1 : decide (n.size ≤ 100) = true := by simp; omega
         rw [h1]; simp_all; done)
      | (have h1 : decide (n.size ≤ 100) = false := by simp; omega
         rw [h1]; simp_all; done)
      | (simp_all; done)
theorem keep_any (c : Circ) (w : World) : Calls Try.prog 39 #[c.val] w fun e w' => e = .returned c.kept ∧ Below w.heap.size w w' := by
  unfold Circ.val
  go_enter Try.func39, Try.ntmps39
  go_wp2
  exact bodyPost_ret (v := c.kept) (by simp [results, Try.results39, go_sem, Circ.kept]) rfl ⟨rfl, (by (repeat' (first | (with_reducible exact Below.refl _ _) | (with_reducible refine Below.alloc ?_ ?_ _) | (with_reducible refine Below.drew ?_) | (with_reducible refine Below.setCell ?_ ?_ _) | (with_reducible refine below_drewN ?_ _) | (refine Below.trans ?_ (Below.mono (by assumption) ?_)) | go_size)))⟩
theorem keep_lit (c : Circ) (w : World) : Calls Try.prog 39 #[.agg #[.string c.ic, .int .i64 c.ii, .string c.oc, .int .i64 c.oi, .int .i64 c.ia, .int .i64 c.oa, .int .i64 c.ie, .int .i64 c.oe, .string c.hash, .string c.sh]] w fun e w' => e = .returned (.agg #[.string c.ic, .int .i64 c.ii, .string c.oc, .int .i64 c.oi, .string c.ic, .int .i64 c.ii, .string c.oc, .int .i64 c.oi, .int .i64 c.ia, .int .i64 c.oa, .int .i64 c.ie, .int .i64 c.oe, .string c.hash, .string c.sh]) ∧ Below w.heap.size w w' := keep_any c w
theorem cell_alloc {w : World} {p : Addr} {v : Value} (o : Obj) (h : w.cell? p = some v) : (w.alloc o).cell? p = some v := (World.cell?_alloc_lt w o p (World.block_lt_of_cell? w p h)).trans h
theorem kept_cells {w : World} {b : Nat} (c : Circ) (h : w.heap[b]? = some (.cells #[.string c.ic, .int .i64 c.ii, .string c.oc, .int .i64 c.oi, .string c.ic, .int .i64 c.ii, .string c.oc, .int .i64 c.oi, .int .i64 c.ia, .int .i64 c.oa, .int .i64 c.ie, .int .i64 c.oe, .string c.hash, .string c.sh] 88 (0, 0))) :
    w.cell? ⟨b, 0, none⟩ = some (.string c.ic) ∧ w.cell? ⟨b, 1, none⟩ = some (.int .i64 c.ii) ∧ w.cell? ⟨b, 2, none⟩ = some (.string c.oc) ∧ w.cell? ⟨b, 3, none⟩ = some (.int .i64 c.oi) ∧ w.cell? ⟨b, 4, none⟩ = some (.string c.ic) ∧ w.cell? ⟨b, 5, none⟩ = some (.int .i64 c.ii) ∧ w.cell? ⟨b, 6, none⟩ = some (.string c.oc) ∧
    w.cell? ⟨b, 7, none⟩ = some (.int .i64 c.oi) ∧ w.cell? ⟨b, 8, none⟩ = some (.int .i64 c.ia) ∧ w.cell? ⟨b, 9, none⟩ = some (.int .i64 c.oa) ∧ w.cell? ⟨b, 10, none⟩ = some (.int .i64 c.ie) ∧ w.cell? ⟨b, 11, none⟩ = some (.int .i64 c.oe) ∧ w.cell? ⟨b, 12, none⟩ = some (.string c.hash) ∧ w.cell? ⟨b, 13, none⟩ = some (.string c.sh) := by
  simp [World.cell?, h]
theorem heap_alloc_at (w : World) (o : Obj) : (w.alloc o).heap[w.heap.size]? = some o := (MapKept.heap_alloc w o).1
/-- what a circuit's strings take -/
def Circ.fits (c : Circ) : Prop := c.ic.size ≤ maxLen ∧ c.oc.size ≤ maxLen
theorem may_b (n : ByteArray) (i : Int) (w : World) (hn : n.size ≤ maxLen) (b : Bool) (hb : mayB n i = b) : Calls Try.prog 40 #[.agg #[.string n, .int .i64 i]] w fun e w' => e = .returned (.bool b) ∧ Below w.heap.size w w' :=
  hb ▸ may_any n i w hn
theorem MapAt.below {w w' : World} {b : Nat} {es : Array MapEntry} {c : Nat} (h : MapAt w b es c) (hb : Below w.heap.size w w') : MapAt w' b es c := (hb.block b (lt_of_heap h)).trans h
theorem born_find {es : Array MapEntry} {c : Nat} (h : ∀ e ∈ es.toList, e.born < c) (k v : Value) : (es.push ⟨k, v, c⟩).findIdx? (fun e => (e.born : Int) == (c : Int)) = some es.size := by
  rw [Array.findIdx?_push]
  have : es.findIdx? (fun e => (e.born : Int) == (c : Int)) = none := by
    rw [Array.findIdx?_eq_none_iff]
    intro x hx
    have := h x (by simpa using hx)
    simp; omega
  rw [this]
  simp
theorem run_entry (key : Circ → Value) (p : Circ → Bool) (n : ByteArray) (i : Int) (hk : ∀ c w, (Op.equal 84 (placeV n i) (key c)).run Try.prog w = .ok (p c) w) (es : Array MapEntry) (c mb : Nat) (L : List Circ) (w : World) (h : Lies key es.toList L)
    (hp : ∀ c : Circ, ∃ n' i', key c = placeV n' i') (hb : MapAt w mb es c) (hno : findC p L 0 = none) :
    (Instr.mapEntry 79 (.map (some mb)) (placeV n i)).run Try.prog w = .ok (.tuple #[zeroKept, .int .i64 (c : Int)]) (putO w mb (.map (es.push ⟨placeV n i, zeroKept, c⟩) (c + 1))) := by
  have hz : (zeroValue 88).run Try.prog w = .ok zeroKept w := by kernel_rfl
  have hf := run_findKey_place key p n i hk es.toList L w h hp
  rw [hno] at hf
  simp only [Instr.mapEntry, Sem.run_bind, run_underlying Try.underlying79, Result.andThen_ok, run_getObj_map w mb es c hb, Sem.run_pure, run_checkKey_place, hf, Option.map_none, hz, MapKept.run_setObj_map _ hb]
  rfl
theorem run_entryStore (es : Array MapEntry) (c mb : Nat) (w : World) (k v v' : Value) (hb : MapAt w mb (es.push ⟨k, v, c⟩) (c + 1)) (hc : ∀ e ∈ es.toList, e.born < c) :
    (Instr.entryStore 79 (.map (some mb)) (.int .i64 (c : Int)) v').run Try.prog w = .ok () (putO w mb (.map (es.push ⟨k, v', c⟩) (c + 1))) := by
  have hi : (asInt (.int .i64 (c : Int))).run Try.prog w = .ok (c : Int) w := by rfl
  have hm : (es.push ⟨k, v, c⟩).modify es.size (fun e => { e with val := v' }) = es.push ⟨k, v', c⟩ := by
    apply Array.ext_getElem?
    intro j
    rw [Array.getElem?_modify, Array.getElem?_push, Array.getElem?_push]
    by_cases hj : j = es.size
    · subst hj; simp
    · rw [if_neg (fun e => hj e.symm)]; simp [hj]
  simp only [Instr.entryStore, Sem.run_bind, Sem.run_pure, Result.andThen_ok, run_getObj_map w mb _ _ hb, hi, born_find hc, hm, MapKept.run_setObj_map _ hb]
  rfl

set_option maxRecDepth 100000 in
set_option maxHeartbeats 4000000 in
theorem open_arg1 (rb : Nat) (w : World) (c : Circ) (hc : c.fits) (hm : mayB c.ic c.ii = false) :
    Calls Try.prog 22 #[.pointer (some ⟨rb, 0, none⟩), c.val] w fun e w' => e = .returned (.int .i64 2) ∧ Below w.heap.size w w' := by
  have HM := Lib.hid hm; clear hm
  obtain ⟨q1, q2⟩ := hc
  unfold Circ.val
  go_enter Try.func22, Try.ntmps22
  go_wp2_with (first | (go_at_call 39; (with_reducible refine Calls.mono (keep_lit c _) ?_); rintro e w1 ⟨rfl, hb1⟩; obtain ⟨hc1, hf1⟩ := bcell hb1; have z1 := hb1.size; try simp only [World.size_alloc] at z1) | (go_at_call 40; (with_reducible refine Calls.mono (may_b c.ic c.ii _ q1 false HM.out) ?_); rintro e w2 ⟨rfl, hb2⟩; obtain ⟨hc2, hf2⟩ := bcell hb2; have z2 := hb2.size; try simp only [World.size_alloc] at z2) | fail)
  go_ret
  exact ⟨rfl, (by (repeat' (first | (with_reducible exact Below.refl _ _) | (with_reducible refine Below.alloc ?_ ?_ _) | (with_reducible refine Below.drew ?_) | (with_reducible refine Below.setCell ?_ ?_ _) | (with_reducible refine below_drewN ?_ _) | (refine Below.trans ?_ (Below.mono (by assumption) ?_)) | go_size)))⟩
set_option maxRecDepth 100000 in
set_option maxHeartbeats 4000000 in
theorem open_arg2 (rb : Nat) (w : World) (c : Circ) (hc : c.fits) (hm : mayB c.ic c.ii = true) (hn : mayB c.oc c.oi = false) :
    Calls Try.prog 22 #[.pointer (some ⟨rb, 0, none⟩), c.val] w fun e w' => e = .returned (.int .i64 2) ∧ Below w.heap.size w w' := by
  have HM := Lib.hid hm; clear hm
  have HN := Lib.hid hn; clear hn
  obtain ⟨q1, q2⟩ := hc
  unfold Circ.val
  go_enter Try.func22, Try.ntmps22
  go_wp2_with (first | (go_at_call 39; (with_reducible refine Calls.mono (keep_lit c _) ?_); rintro e w1 ⟨rfl, hb1⟩; obtain ⟨hc1, hf1⟩ := bcell hb1; have z1 := hb1.size; try simp only [World.size_alloc] at z1) | (go_at_call 40; (with_reducible refine Calls.mono (may_b c.ic c.ii _ q1 true HM.out) ?_); rintro e w2 ⟨rfl, hb2⟩; obtain ⟨hc2, hf2⟩ := bcell hb2; have z2 := hb2.size; try simp only [World.size_alloc] at z2) | (go_at_call 40; (with_reducible refine Calls.mono (may_b c.oc c.oi _ q2 false HN.out) ?_); rintro e w3 ⟨rfl, hb3⟩; obtain ⟨hc3, hf3⟩ := bcell hb3; have z3 := hb3.size; try simp only [World.size_alloc] at z3))
  go_ret
  exact ⟨rfl, (by (repeat' (first | (with_reducible exact Below.refl _ _) | (with_reducible refine Below.alloc ?_ ?_ _) | (with_reducible refine Below.drew ?_) | (with_reducible refine Below.setCell ?_ ?_ _) | (with_reducible refine below_drewN ?_ _) | (refine Below.trans ?_ (Below.mono (by assumption) ?_)) | go_size)))⟩
set_option maxRecDepth 100000 in
set_option maxHeartbeats 4000000 in
theorem open_sn (rb base mi mo : Nat) (v : Value) (L : List Circ) (w : World) (h : RelAt w base rb mi mo v L) (c : Circ) (hc : c.fits) (hm : mayB c.ic c.ii = true) (hn : mayB c.oc c.oi = true) (x : Nat × Circ) (hx : findC (Circ.inIs c.ic c.ii) L 0 = some x) (hy : findC (Circ.outIs c.oc c.oi) L 0 = none) :
    Calls Try.prog 22 #[.pointer (some ⟨rb, 0, none⟩), c.val] w fun e w' => e = .returned (.int .i64 6) ∧ Below w.heap.size w w' := by
  have HM := Lib.hid hm; clear hm
  have HN := Lib.hid hn; clear hn
  obtain ⟨q1, q2⟩ := hc
  obtain ⟨vo, vc, rfl⟩ := own_slice h.own
  have c2 : w.cell? ⟨rb, 2, none⟩ = some (.slice vo L.length vc) := by simp [World.cell?, h.rbk]
  have hfew := h.few
  obtain ⟨es, ci, m0, hl, _⟩ := h.mik
  obtain ⟨fs, co, n0, hl', _⟩ := h.mok
  have hrb := lt_of_heap h.rbk
  have c0 : w.cell? ⟨rb, 0, none⟩ = some (.map (some mi)) := by simp [World.cell?, h.rbk]
  have c1 : w.cell? ⟨rb, 1, none⟩ = some (.map (some mo)) := by simp [World.cell?, h.rbk]
  have m0 : MapAt w mi es ci := m0
  have n0 : MapAt w mo fs co := n0
  have hmd : ∀ (W : World), MapAt W.drew mi es ci = MapAt W mi es ci := fun _ => rfl
  have hnd : ∀ (W : World), MapAt W.drew mo fs co = MapAt W mo fs co := fun _ => rfl
  have hlk : ∀ W : World, MapAt W mi es ci → (Instr.lookup 79 (.map (some mi)) (placeV c.ic c.ii) true).run Try.prog W = .ok (.tuple #[((findC (Circ.inIs c.ic c.ii) L 0).map fun x => x.2.kept).getD zeroKept, .bool (findC (Circ.inIs c.ic c.ii) L 0).isSome]) W :=
    fun W hW => run_look Circ.inV (Circ.inIs c.ic c.ii) c.ic c.ii (key_in c.ic c.ii) es ci mi L W hl (fun c => ⟨_, _, rfl⟩) hW
  have hlk' : ∀ W : World, MapAt W mo fs co → (Instr.lookup 79 (.map (some mo)) (placeV c.oc c.oi) true).run Try.prog W = .ok (.tuple #[((findC (Circ.outIs c.oc c.oi) L 0).map fun x => x.2.kept).getD zeroKept, .bool (findC (Circ.outIs c.oc c.oi) L 0).isSome]) W :=
    fun W hW => run_look Circ.outV (Circ.outIs c.oc c.oi) c.oc c.oi (key_out c.oc c.oi) fs co mo L W hl' (fun c => ⟨_, _, rfl⟩) hW
  unfold placeV at hlk hlk'
  rw [hx] at hlk
  rw [hy] at hlk'
  simp only [Option.map_some, Option.getD_some, Option.isSome_some, Circ.kept] at hlk
  simp only [Option.map_none, Option.getD_none, Option.isSome_none, zeroKept, Circ.kept, Circ.zero] at hlk'
  clear hx hy h
  unfold Circ.val
  go_enter Try.func22, Try.ntmps22
  go_wp2_with (first | (go_at_call 39; (with_reducible refine Calls.mono (keep_lit c _) ?_); rintro e w1 ⟨rfl, hb1⟩; obtain ⟨hc1, hf1⟩ := bcell hb1; have m1 := (m0.alloc _).below hb1; have n1 := (n0.alloc _).below hb1; have c01 := cell_later hb1 (cell_alloc _ c0); have c11 := cell_later hb1 (cell_alloc _ c1); have c21 := cell_later hb1 (cell_alloc _ c2); clear c0 c1 c2 m0 n0; have z1 := hb1.size; try simp only [World.size_alloc] at z1) | (go_at_call 40; (with_reducible refine Calls.mono (may_b c.ic c.ii _ q1 true HM.out) ?_); rintro e w2 ⟨rfl, hb2⟩; obtain ⟨hc2, hf2⟩ := bcell hb2; have m2 := (m1.alloc _).below hb2; have n2 := (n1.alloc _).below hb2; have c02 := cell_later hb2 (cell_alloc _ c01); have c12 := cell_later hb2 (cell_alloc _ c11); have c22 := cell_later hb2 (cell_alloc _ c21); have K2 := Lib.hid ((hb2.block _ (by simp)).trans (heap_alloc_at w1 _)); clear c01 c11 c21 m1 n1 hc1 hf1; have z2 := hb2.size; try simp only [World.size_alloc] at z2) | (go_at_call 40; (with_reducible refine Calls.mono (may_b c.oc c.oi _ q2 true HN.out) ?_); rintro e w3 ⟨rfl, hb3⟩; obtain ⟨hc3, hf3⟩ := bcell hb3; have m3 := m2.below hb3; have n3 := n2.below hb3; have m3a : ∀ o, MapAt (w3.alloc o) mi es ci := (fun o => m3.alloc o); have m3b : ∀ o o', MapAt ((w3.alloc o).alloc o') mi es ci := (fun o o' => (m3.alloc o).alloc o'); have n3a : ∀ o, MapAt (w3.alloc o) mo fs co := (fun o => n3.alloc o); have n3b : ∀ o o', MapAt ((w3.alloc o).alloc o') mo fs co := (fun o o' => (n3.alloc o).alloc o'); have c03 := cell_later hb3 c02; have c13 := cell_later hb3 c12; have c23 := cell_later hb3 c22; have K3 := Lib.hid ((hb3.block _ (by omega)).trans K2.out); obtain ⟨k0, k1, k2, k3, k4, k5, k6, k7, k8, k9, ka, kb, kc, kd⟩ := kept_cells c K3.out; clear c02 c12 c22 m2 n2 hc2 hf2 hc3 hf3; have zk : w1.heap.size < w3.heap.size := (by have := hb3.size; have := hb2.size; simp only [World.size_alloc] at *; omega); have zr : rb < w3.heap.size := World.block_lt_of_cell? _ _ c03; have z3 := hb3.size; try simp only [World.size_alloc] at z3))
  go_region
  go_wp2
  go_region
  go_wp2
  go_ret
  exact ⟨rfl, (by (repeat' (first | (with_reducible exact Below.refl _ _) | (with_reducible refine Below.alloc ?_ ?_ _) | (with_reducible refine Below.drew ?_) | (with_reducible refine Below.setCell ?_ ?_ _) | (with_reducible refine below_drewN ?_ _) | (refine Below.trans ?_ (Below.mono (by assumption) ?_)) | go_size)))⟩
set_option maxRecDepth 100000 in
set_option maxHeartbeats 4000000 in
theorem open_ns (rb base mi mo : Nat) (v : Value) (L : List Circ) (w : World) (h : RelAt w base rb mi mo v L) (c : Circ) (hc : c.fits) (hm : mayB c.ic c.ii = true) (hn : mayB c.oc c.oi = true) (y : Nat × Circ) (hx : findC (Circ.inIs c.ic c.ii) L 0 = none) (hy : findC (Circ.outIs c.oc c.oi) L 0 = some y) :
    Calls Try.prog 22 #[.pointer (some ⟨rb, 0, none⟩), c.val] w fun e w' => e = .returned (.int .i64 6) ∧ Below w.heap.size w w' := by
  have HM := Lib.hid hm; clear hm
  have HN := Lib.hid hn; clear hn
  obtain ⟨q1, q2⟩ := hc
  obtain ⟨vo, vc, rfl⟩ := own_slice h.own
  have c2 : w.cell? ⟨rb, 2, none⟩ = some (.slice vo L.length vc) := by simp [World.cell?, h.rbk]
  have hfew := h.few
  obtain ⟨es, ci, m0, hl, _⟩ := h.mik
  obtain ⟨fs, co, n0, hl', _⟩ := h.mok
  have hrb := lt_of_heap h.rbk
  have c0 : w.cell? ⟨rb, 0, none⟩ = some (.map (some mi)) := by simp [World.cell?, h.rbk]
  have c1 : w.cell? ⟨rb, 1, none⟩ = some (.map (some mo)) := by simp [World.cell?, h.rbk]
  have m0 : MapAt w mi es ci := m0
  have n0 : MapAt w mo fs co := n0
  have hmd : ∀ (W : World), MapAt W.drew mi es ci = MapAt W mi es ci := fun _ => rfl
  have hnd : ∀ (W : World), MapAt W.drew mo fs co = MapAt W mo fs co := fun _ => rfl
  have hlk : ∀ W : World, MapAt W mi es ci → (Instr.lookup 79 (.map (some mi)) (placeV c.ic c.ii) true).run Try.prog W = .ok (.tuple #[((findC (Circ.inIs c.ic c.ii) L 0).map fun x => x.2.kept).getD zeroKept, .bool (findC (Circ.inIs c.ic c.ii) L 0).isSome]) W :=
    fun W hW => run_look Circ.inV (Circ.inIs c.ic c.ii) c.ic c.ii (key_in c.ic c.ii) es ci mi L W hl (fun c => ⟨_, _, rfl⟩) hW
  have hlk' : ∀ W : World, MapAt W mo fs co → (Instr.lookup 79 (.map (some mo)) (placeV c.oc c.oi) true).run Try.prog W = .ok (.tuple #[((findC (Circ.outIs c.oc c.oi) L 0).map fun x => x.2.kept).getD zeroKept, .bool (findC (Circ.outIs c.oc c.oi) L 0).isSome]) W :=
    fun W hW => run_look Circ.outV (Circ.outIs c.oc c.oi) c.oc c.oi (key_out c.oc c.oi) fs co mo L W hl' (fun c => ⟨_, _, rfl⟩) hW
  unfold placeV at hlk hlk'
  rw [hx] at hlk
  rw [hy] at hlk'
  simp only [Option.map_none, Option.getD_none, Option.isSome_none, zeroKept, Circ.kept, Circ.zero] at hlk
  simp only [Option.map_some, Option.getD_some, Option.isSome_some, Circ.kept] at hlk'
  clear hx hy h
  unfold Circ.val
  go_enter Try.func22, Try.ntmps22
  go_wp2_with (first | (go_at_call 39; (with_reducible refine Calls.mono (keep_lit c _) ?_); rintro e w1 ⟨rfl, hb1⟩; obtain ⟨hc1, hf1⟩ := bcell hb1; have m1 := (m0.alloc _).below hb1; have n1 := (n0.alloc _).below hb1; have c01 := cell_later hb1 (cell_alloc _ c0); have c11 := cell_later hb1 (cell_alloc _ c1); have c21 := cell_later hb1 (cell_alloc _ c2); clear c0 c1 c2 m0 n0; have z1 := hb1.size; try simp only [World.size_alloc] at z1) | (go_at_call 40; (with_reducible refine Calls.mono (may_b c.ic c.ii _ q1 true HM.out) ?_); rintro e w2 ⟨rfl, hb2⟩; obtain ⟨hc2, hf2⟩ := bcell hb2; have m2 := (m1.alloc _).below hb2; have n2 := (n1.alloc _).below hb2; have c02 := cell_later hb2 (cell_alloc _ c01); have c12 := cell_later hb2 (cell_alloc _ c11); have c22 := cell_later hb2 (cell_alloc _ c21); have K2 := Lib.hid ((hb2.block _ (by simp)).trans (heap_alloc_at w1 _)); clear c01 c11 c21 m1 n1 hc1 hf1; have z2 := hb2.size; try simp only [World.size_alloc] at z2) | (go_at_call 40; (with_reducible refine Calls.mono (may_b c.oc c.oi _ q2 true HN.out) ?_); rintro e w3 ⟨rfl, hb3⟩; obtain ⟨hc3, hf3⟩ := bcell hb3; have m3 := m2.below hb3; have n3 := n2.below hb3; have m3a : ∀ o, MapAt (w3.alloc o) mi es ci := (fun o => m3.alloc o); have m3b : ∀ o o', MapAt ((w3.alloc o).alloc o') mi es ci := (fun o o' => (m3.alloc o).alloc o'); have n3a : ∀ o, MapAt (w3.alloc o) mo fs co := (fun o => n3.alloc o); have n3b : ∀ o o', MapAt ((w3.alloc o).alloc o') mo fs co := (fun o o' => (n3.alloc o).alloc o'); have c03 := cell_later hb3 c02; have c13 := cell_later hb3 c12; have c23 := cell_later hb3 c22; have K3 := Lib.hid ((hb3.block _ (by omega)).trans K2.out); obtain ⟨k0, k1, k2, k3, k4, k5, k6, k7, k8, k9, ka, kb, kc, kd⟩ := kept_cells c K3.out; clear c02 c12 c22 m2 n2 hc2 hf2 hc3 hf3; have zk : w1.heap.size < w3.heap.size := (by have := hb3.size; have := hb2.size; simp only [World.size_alloc] at *; omega); have zr : rb < w3.heap.size := World.block_lt_of_cell? _ _ c03; have z3 := hb3.size; try simp only [World.size_alloc] at z3))
  go_region
  go_wp2
  go_region
  go_wp2
  go_ret
  exact ⟨rfl, (by (repeat' (first | (with_reducible exact Below.refl _ _) | (with_reducible refine Below.alloc ?_ ?_ _) | (with_reducible refine Below.drew ?_) | (with_reducible refine Below.setCell ?_ ?_ _) | (with_reducible refine below_drewN ?_ _) | (refine Below.trans ?_ (Below.mono (by assumption) ?_)) | go_size)))⟩
set_option maxRecDepth 100000 in
set_option maxHeartbeats 4000000 in
theorem open_ss (rb base mi mo : Nat) (v : Value) (L : List Circ) (w : World) (h : RelAt w base rb mi mo v L) (c : Circ) (hc : c.fits) (hm : mayB c.ic c.ii = true) (hn : mayB c.oc c.oi = true) (x y : Nat × Circ) (hx : findC (Circ.inIs c.ic c.ii) L 0 = some x) (hy : findC (Circ.outIs c.oc c.oi) L 0 = some y) :
    Calls Try.prog 22 #[.pointer (some ⟨rb, 0, none⟩), c.val] w fun e w' => e = .returned (.int .i64 6) ∧ Below w.heap.size w w' := by
  have HM := Lib.hid hm; clear hm
  have HN := Lib.hid hn; clear hn
  obtain ⟨q1, q2⟩ := hc
  obtain ⟨vo, vc, rfl⟩ := own_slice h.own
  have c2 : w.cell? ⟨rb, 2, none⟩ = some (.slice vo L.length vc) := by simp [World.cell?, h.rbk]
  have hfew := h.few
  obtain ⟨es, ci, m0, hl, _⟩ := h.mik
  obtain ⟨fs, co, n0, hl', _⟩ := h.mok
  have hrb := lt_of_heap h.rbk
  have c0 : w.cell? ⟨rb, 0, none⟩ = some (.map (some mi)) := by simp [World.cell?, h.rbk]
  have c1 : w.cell? ⟨rb, 1, none⟩ = some (.map (some mo)) := by simp [World.cell?, h.rbk]
  have m0 : MapAt w mi es ci := m0
  have n0 : MapAt w mo fs co := n0
  have hmd : ∀ (W : World), MapAt W.drew mi es ci = MapAt W mi es ci := fun _ => rfl
  have hnd : ∀ (W : World), MapAt W.drew mo fs co = MapAt W mo fs co := fun _ => rfl
  have hlk : ∀ W : World, MapAt W mi es ci → (Instr.lookup 79 (.map (some mi)) (placeV c.ic c.ii) true).run Try.prog W = .ok (.tuple #[((findC (Circ.inIs c.ic c.ii) L 0).map fun x => x.2.kept).getD zeroKept, .bool (findC (Circ.inIs c.ic c.ii) L 0).isSome]) W :=
    fun W hW => run_look Circ.inV (Circ.inIs c.ic c.ii) c.ic c.ii (key_in c.ic c.ii) es ci mi L W hl (fun c => ⟨_, _, rfl⟩) hW
  have hlk' : ∀ W : World, MapAt W mo fs co → (Instr.lookup 79 (.map (some mo)) (placeV c.oc c.oi) true).run Try.prog W = .ok (.tuple #[((findC (Circ.outIs c.oc c.oi) L 0).map fun x => x.2.kept).getD zeroKept, .bool (findC (Circ.outIs c.oc c.oi) L 0).isSome]) W :=
    fun W hW => run_look Circ.outV (Circ.outIs c.oc c.oi) c.oc c.oi (key_out c.oc c.oi) fs co mo L W hl' (fun c => ⟨_, _, rfl⟩) hW
  unfold placeV at hlk hlk'
  rw [hx] at hlk
  rw [hy] at hlk'
  simp only [Option.map_some, Option.getD_some, Option.isSome_some, Circ.kept] at hlk
  simp only [Option.map_some, Option.getD_some, Option.isSome_some, Circ.kept] at hlk'
  clear hx hy h
  unfold Circ.val
  go_enter Try.func22, Try.ntmps22
  go_wp2_with (first | (go_at_call 39; (with_reducible refine Calls.mono (keep_lit c _) ?_); rintro e w1 ⟨rfl, hb1⟩; obtain ⟨hc1, hf1⟩ := bcell hb1; have m1 := (m0.alloc _).below hb1; have n1 := (n0.alloc _).below hb1; have c01 := cell_later hb1 (cell_alloc _ c0); have c11 := cell_later hb1 (cell_alloc _ c1); have c21 := cell_later hb1 (cell_alloc _ c2); clear c0 c1 c2 m0 n0; have z1 := hb1.size; try simp only [World.size_alloc] at z1) | (go_at_call 40; (with_reducible refine Calls.mono (may_b c.ic c.ii _ q1 true HM.out) ?_); rintro e w2 ⟨rfl, hb2⟩; obtain ⟨hc2, hf2⟩ := bcell hb2; have m2 := (m1.alloc _).below hb2; have n2 := (n1.alloc _).below hb2; have c02 := cell_later hb2 (cell_alloc _ c01); have c12 := cell_later hb2 (cell_alloc _ c11); have c22 := cell_later hb2 (cell_alloc _ c21); have K2 := Lib.hid ((hb2.block _ (by simp)).trans (heap_alloc_at w1 _)); clear c01 c11 c21 m1 n1 hc1 hf1; have z2 := hb2.size; try simp only [World.size_alloc] at z2) | (go_at_call 40; (with_reducible refine Calls.mono (may_b c.oc c.oi _ q2 true HN.out) ?_); rintro e w3 ⟨rfl, hb3⟩; obtain ⟨hc3, hf3⟩ := bcell hb3; have m3 := m2.below hb3; have n3 := n2.below hb3; have m3a : ∀ o, MapAt (w3.alloc o) mi es ci := (fun o => m3.alloc o); have m3b : ∀ o o', MapAt ((w3.alloc o).alloc o') mi es ci := (fun o o' => (m3.alloc o).alloc o'); have n3a : ∀ o, MapAt (w3.alloc o) mo fs co := (fun o => n3.alloc o); have n3b : ∀ o o', MapAt ((w3.alloc o).alloc o') mo fs co := (fun o o' => (n3.alloc o).alloc o'); have c03 := cell_later hb3 c02; have c13 := cell_later hb3 c12; have c23 := cell_later hb3 c22; have K3 := Lib.hid ((hb3.block _ (by omega)).trans K2.out); obtain ⟨k0, k1, k2, k3, k4, k5, k6, k7, k8, k9, ka, kb, kc, kd⟩ := kept_cells c K3.out; clear c02 c12 c22 m2 n2 hc2 hf2 hc3 hf3; have zk : w1.heap.size < w3.heap.size := (by have := hb3.size; have := hb2.size; simp only [World.size_alloc] at *; omega); have zr : rb < w3.heap.size := World.block_lt_of_cell? _ _ c03; have z3 := hb3.size; try simp only [World.size_alloc] at z3))
  go_region
  go_wp2
  go_region
  go_wp2
  go_ret
  exact ⟨rfl, (by (repeat' (first | (with_reducible exact Below.refl _ _) | (with_reducible refine Below.alloc ?_ ?_ _) | (with_reducible refine Below.drew ?_) | (with_reducible refine Below.setCell ?_ ?_ _) | (with_reducible refine below_drewN ?_ _) | (refine Below.trans ?_ (Below.mono (by assumption) ?_)) | go_size)))⟩
set_option maxRecDepth 100000 in
set_option maxHeartbeats 4000000 in
theorem open_full (rb base mi mo : Nat) (v : Value) (L : List Circ) (w : World) (h : RelAt w base rb mi mo v L) (c : Circ) (hc : c.fits) (hm : mayB c.ic c.ii = true) (hn : mayB c.oc c.oi = true) (hx : findC (Circ.inIs c.ic c.ii) L 0 = none) (hy : findC (Circ.outIs c.oc c.oi) L 0 = none) (hf : 256 ≤ L.length) :
    Calls Try.prog 22 #[.pointer (some ⟨rb, 0, none⟩), c.val] w fun e w' => e = .returned (.int .i64 3) ∧ Below w.heap.size w w' := by
  have HM := Lib.hid hm; clear hm
  have HN := Lib.hid hn; clear hn
  obtain ⟨q1, q2⟩ := hc
  obtain ⟨vo, vc, rfl⟩ := own_slice h.own
  have c2 : w.cell? ⟨rb, 2, none⟩ = some (.slice vo L.length vc) := by simp [World.cell?, h.rbk]
  have hfew := h.few
  obtain ⟨es, ci, m0, hl, _⟩ := h.mik
  obtain ⟨fs, co, n0, hl', _⟩ := h.mok
  have hrb := lt_of_heap h.rbk
  have c0 : w.cell? ⟨rb, 0, none⟩ = some (.map (some mi)) := by simp [World.cell?, h.rbk]
  have c1 : w.cell? ⟨rb, 1, none⟩ = some (.map (some mo)) := by simp [World.cell?, h.rbk]
  have m0 : MapAt w mi es ci := m0
  have n0 : MapAt w mo fs co := n0
  have hmd : ∀ (W : World), MapAt W.drew mi es ci = MapAt W mi es ci := fun _ => rfl
  have hnd : ∀ (W : World), MapAt W.drew mo fs co = MapAt W mo fs co := fun _ => rfl
  have hlk : ∀ W : World, MapAt W mi es ci → (Instr.lookup 79 (.map (some mi)) (placeV c.ic c.ii) true).run Try.prog W = .ok (.tuple #[((findC (Circ.inIs c.ic c.ii) L 0).map fun x => x.2.kept).getD zeroKept, .bool (findC (Circ.inIs c.ic c.ii) L 0).isSome]) W :=
    fun W hW => run_look Circ.inV (Circ.inIs c.ic c.ii) c.ic c.ii (key_in c.ic c.ii) es ci mi L W hl (fun c => ⟨_, _, rfl⟩) hW
  have hlk' : ∀ W : World, MapAt W mo fs co → (Instr.lookup 79 (.map (some mo)) (placeV c.oc c.oi) true).run Try.prog W = .ok (.tuple #[((findC (Circ.outIs c.oc c.oi) L 0).map fun x => x.2.kept).getD zeroKept, .bool (findC (Circ.outIs c.oc c.oi) L 0).isSome]) W :=
    fun W hW => run_look Circ.outV (Circ.outIs c.oc c.oi) c.oc c.oi (key_out c.oc c.oi) fs co mo L W hl' (fun c => ⟨_, _, rfl⟩) hW
  unfold placeV at hlk hlk'
  rw [hx] at hlk
  rw [hy] at hlk'
  simp only [Option.map_none, Option.getD_none, Option.isSome_none, zeroKept, Circ.kept, Circ.zero] at hlk
  simp only [Option.map_none, Option.getD_none, Option.isSome_none, zeroKept, Circ.kept, Circ.zero] at hlk'
  clear hx hy h
  unfold Circ.val
  go_enter Try.func22, Try.ntmps22
  go_wp2_with (first | (go_at_call 39; (with_reducible refine Calls.mono (keep_lit c _) ?_); rintro e w1 ⟨rfl, hb1⟩; obtain ⟨hc1, hf1⟩ := bcell hb1; have m1 := (m0.alloc _).below hb1; have n1 := (n0.alloc _).below hb1; have c01 := cell_later hb1 (cell_alloc _ c0); have c11 := cell_later hb1 (cell_alloc _ c1); have c21 := cell_later hb1 (cell_alloc _ c2); clear c0 c1 c2 m0 n0; have z1 := hb1.size; try simp only [World.size_alloc] at z1) | (go_at_call 40; (with_reducible refine Calls.mono (may_b c.ic c.ii _ q1 true HM.out) ?_); rintro e w2 ⟨rfl, hb2⟩; obtain ⟨hc2, hf2⟩ := bcell hb2; have m2 := (m1.alloc _).below hb2; have n2 := (n1.alloc _).below hb2; have c02 := cell_later hb2 (cell_alloc _ c01); have c12 := cell_later hb2 (cell_alloc _ c11); have c22 := cell_later hb2 (cell_alloc _ c21); have K2 := Lib.hid ((hb2.block _ (by simp)).trans (heap_alloc_at w1 _)); clear c01 c11 c21 m1 n1 hc1 hf1; have z2 := hb2.size; try simp only [World.size_alloc] at z2) | (go_at_call 40; (with_reducible refine Calls.mono (may_b c.oc c.oi _ q2 true HN.out) ?_); rintro e w3 ⟨rfl, hb3⟩; obtain ⟨hc3, hf3⟩ := bcell hb3; have m3 := m2.below hb3; have n3 := n2.below hb3; have m3a : ∀ o, MapAt (w3.alloc o) mi es ci := (fun o => m3.alloc o); have m3b : ∀ o o', MapAt ((w3.alloc o).alloc o') mi es ci := (fun o o' => (m3.alloc o).alloc o'); have n3a : ∀ o, MapAt (w3.alloc o) mo fs co := (fun o => n3.alloc o); have n3b : ∀ o o', MapAt ((w3.alloc o).alloc o') mo fs co := (fun o o' => (n3.alloc o).alloc o'); have c03 := cell_later hb3 c02; have c13 := cell_later hb3 c12; have c23 := cell_later hb3 c22; have K3 := Lib.hid ((hb3.block _ (by omega)).trans K2.out); obtain ⟨k0, k1, k2, k3, k4, k5, k6, k7, k8, k9, ka, kb, kc, kd⟩ := kept_cells c K3.out; clear c02 c12 c22 m2 n2 hc2 hf2 hc3 hf3; have zk : w1.heap.size < w3.heap.size := (by have := hb3.size; have := hb2.size; simp only [World.size_alloc] at *; omega); have zr : rb < w3.heap.size := World.block_lt_of_cell? _ _ c03; have z3 := hb3.size; try simp only [World.size_alloc] at z3))
  go_region
  go_wp2
  go_region
  go_wp2
  go_ret
  exact ⟨rfl, (by (repeat' (first | (with_reducible exact Below.refl _ _) | (with_reducible refine Below.alloc ?_ ?_ _) | (with_reducible refine Below.drew ?_) | (with_reducible refine Below.setCell ?_ ?_ _) | (with_reducible refine below_drewN ?_ _) | (refine Below.trans ?_ (Below.mono (by assumption) ?_)) | go_size)))⟩
end Go.Proofs.Ytjdbnaedlljfhaa
