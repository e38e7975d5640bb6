/- The relay: Open, where it opens. -/
import Derived.Test.YtjdbnaedlljfhaaRel2
import Derived.Deep.RegionHeld3
import Derived.Deep.AppendLies
import Derived.Deep.RegionLaw
namespace Go.Proofs.Ytjdbnaedlljfhaa
open Go.RowKit
theorem _root_.Go.RowKit.Below.toFr {a b : World} (h : Below a.heap.size a b) : Fr (fun _ => False) a b := Fr.below h
theorem put4 (w : World) (mi mo : Nat) (a b c d : Obj) (hi : mi < w.heap.size) (ho : mo < w.heap.size) (hne : mi ≠ mo) :
    (let w' := putO (putO (putO (putO w mi a) mi b) mo c) mo d
     (w'.os = w.os ∧ w'.tape = w.tape ∧ w'.output = w.output) ∧ w'.heap.size = w.heap.size ∧ w'.heap[mi]? = some b ∧ w'.heap[mo]? = some d ∧ ∀ k, k ≠ mi → k ≠ mo → w'.heap[k]? = w.heap[k]?) := by
  refine ⟨⟨rfl, rfl, rfl⟩, by simp, ?_, ?_, ?_⟩
  · rw [putO_other hne, putO_other hne]
    exact putO_same (Array.getElem?_eq_getElem (by simpa using hi))
  · exact putO_same (Array.getElem?_eq_getElem (by simpa using ho))
  · intro k h1 h2
    rw [putO_other h2, putO_other h2, putO_other h1, putO_other h1]
theorem Try.info84 : (Try.prog.info? 84).map (fun i => (i.zero, i.size, i.bytes)) = some (some (.agg #[.string ⟨#[]⟩, .int .i64 0]), 2, 24) := by kernel_rfl
theorem cellrow {w w' : World} {o : Obj} {row : Option Nat} {rb i : Nat} {v : Value} (h : ((w.alloc o).drew).grownBy w' row) (hc : w.cell? ⟨rb, i, none⟩ = some v) (hr : row ≠ some rb) : w'.cell? ⟨rb, i, none⟩ = some v :=
  (World.cell?_of_block (h.block rb (by simp; have := World.block_lt_of_cell? w _ hc; simp at this; omega) (fun e => hr e.symm))).trans (cell_alloc o hc)
theorem frzrow {w w' : World} {o : Obj} {row : Option Nat} {rb i : Nat} (h : ((w.alloc o).drew).grownBy w' row) (hc : w.frozen? ⟨rb, i, none⟩ = false) (hz : rb < w.heap.size) (hr : row ≠ some rb) : w'.frozen? ⟨rb, i, none⟩ = false := by
  have h1 : w'.heap[rb]? = w.heap[rb]? := (h.block rb (by simp; omega) (fun e => hr e.symm)).trans (alloc_heap o hz)
  simpa [World.frozen?, h1] using hc
theorem RelAt.rowne {w : World} {base rb mi mo : Nat} {v : Value} {L : List Circ} (h : RelAt w base rb mi mo v L) : ∀ g, v.ownBlock = some g → g ≠ mi ∧ g ≠ mo ∧ g ≠ rb := by
  intro g hg
  obtain ⟨es, c, e1, _⟩ := h.mik
  obtain ⟨fs, d, f1, _⟩ := h.mok
  rcases h.own.2 with ⟨h0, _⟩ | ⟨g', cap, cur, hv, _, hh, _⟩
  · rw [h0] at hg; cases hg
  · rw [hv] at hg
    have : g' = g := by simpa [Value.ownBlock] using hg
    subst this
    refine ⟨?_, ?_, ?_⟩ <;> rintro rfl
    · rw [hh] at e1; cases e1
    · rw [hh] at f1; cases f1
    · rw [h.rbk] at hh; injection hh with hh; injection hh with _ hh; revert hh; decide
theorem own6 {w w5 w6 : World} {base rb mi mo : Nat} {v : Value} {L : List Circ} (h : RelAt w base rb mi mo v L) (hb : Below w.heap.size w w5) (hk : ∀ k, k ≠ mi → k ≠ mo → w6.heap[k]? = w5.heap[k]?) (hz : w6.heap.size = w5.heap.size) : w6.ownsRow base 84 2 v L.length (placeCells L) :=
  ownsRow_blocks h.own (fun g hg => (hk g (h.rowne g hg).1 (h.rowne g hg).2.1).trans (hb.block g (h.own.lt g hg).2)) (by rw [hz]; exact hb.size)
theorem Lies.snoc {key : Circ → Value} {es : Array MapEntry} {L : List Circ} (h : Lies key es.toList L) (c : Circ) (b : Nat) : Lies key (es.push ⟨key c, c.kept, b⟩).toList (L ++ [c]) := by
  unfold Lies at *
  simp [h]
theorem born_push {es : Array MapEntry} {c : Nat} (h : ∀ e ∈ es.toList, e.born < c) (k v : Value) : ∀ e ∈ (es.push ⟨k, v, c⟩).toList, e.born < c + 1 := by
  intro e he
  simp only [Array.toList_push, List.mem_append, List.mem_singleton] at he
  rcases he with he | rfl
  · have := h e he; omega
  · show c < c + 1; omega
theorem own_setCell {w : World} {base E size n : Nat} {v : Value} {xs : List Value} (h : w.ownsRow base E size v n xs) (p : Addr) (u : Value) (hne : v.ownBlock ≠ some p.block) : (w.setCell p u).ownsRow base E size v n xs :=
  ownsRow_blocks h (fun g hg => Below.heap_setCell w p u g (fun e => hne (by rw [hg, e]))) (by simp [World.setCell])
theorem findC_none {p : Circ → Bool} : ∀ {L : List Circ} {i : Nat}, findC p L i = none → ∀ (t : Nat) (x : Circ), L[t]? = some x → p x = false
  | [], _, _, t, x, h => by simp at h
  | c :: r, i, h, t, x, hx => by
    unfold findC at h
    by_cases hp : p c = true
    · rw [if_pos hp] at h; cases h
    · rw [if_neg hp] at h
      cases t with
      | zero => simp at hx; subst hx; simpa using hp
      | succ t => exact findC_none h t x (by simpa using hx)
theorem sameP_comm (n : ByteArray) (i : Int) (n' : ByteArray) (i' : Int) : sameP n i n' i' = sameP n' i' n i := by
  unfold sameP
  rw [Bool.eq_iff_iff]
  simp only [Bool.and_eq_true, beq_iff_eq]
  exact ⟨fun ⟨a, b⟩ => ⟨a.symm, b.symm⟩, fun ⟨a, b⟩ => ⟨a.symm, b.symm⟩⟩
theorem Uniq.snoc {L : List Circ} {c : Circ} (h : Uniq L) (h1 : findC (Circ.inIs c.ic c.ii) L 0 = none) (h2 : findC (Circ.outIs c.oc c.oi) L 0 = none) : Uniq (L ++ [c]) := by
  have n1 := findC_none h1
  have n2 := findC_none h2
  intro i j a b ha hb hab
  rcases Nat.lt_or_ge i L.length with hi | hi
  · rw [List.getElem?_append_left hi] at ha
    rcases Nat.lt_or_ge j L.length with hj | hj
    · rw [List.getElem?_append_left hj] at hb
      exact h i j a b ha hb hab
    · rw [List.getElem?_append_right hj] at hb
      have : b = c := by
        cases hk : j - L.length with
        | zero => rw [hk] at hb; simp at hb; exact hb.symm
        | succ k => rw [hk] at hb; simp at hb
      subst this
      rcases hab with hab | hab
      · rw [n1 i a ha] at hab; cases hab
      · rw [n2 i a ha] at hab; cases hab
  · rw [List.getElem?_append_right hi] at ha
    have hac : a = c ∧ i = L.length := by
      cases hk : i - L.length with
      | zero => rw [hk] at ha; simp at ha; exact ⟨ha.symm, by omega⟩
      | succ k => rw [hk] at ha; simp at ha
    obtain ⟨rfl, hil⟩ := hac
    rcases Nat.lt_or_ge j L.length with hj | hj
    · rw [List.getElem?_append_left hj] at hb
      rcases hab with hab | hab
      · rw [show a.inIs b.ic b.ii = false from (sameP_comm _ _ _ _).trans (n1 j b hb)] at hab; cases hab
      · rw [show a.outIs b.oc b.oi = false from (sameP_comm _ _ _ _).trans (n2 j b hb)] at hab; cases hab
    · rw [List.getElem?_append_right hj] at hb
      cases hk : j - L.length with
      | zero => omega
      | succ k => rw [hk] at hb; simp at hb
theorem open_end {w w5 w6 w7 : World} {base rb mi mo : Nat} {vo : Option Addr} {vc : Nat} {L : List Circ} (c : Circ) {es fs : Array MapEntry} {ci co g cap : Nat} {o : Obj} (h : RelAt w base rb mi mo (.slice vo L.length vc) L) (hb : Below w.heap.size w w5)
    (hl : Lies Circ.inV es.toList L) (hl' : Lies Circ.outV fs.toList L) (heb : ∀ e ∈ es.toList, e.born < ci) (hfb : ∀ e ∈ fs.toList, e.born < co) (hmi : mi < w.heap.size) (hmo : mo < w.heap.size) (hf : L.length < 256) (hno1 : findC (Circ.inIs c.ic c.ii) L 0 = none) (hno2 : findC (Circ.outIs c.oc c.oi) L 0 = none)
    (hg6 : (w6.os = w5.os ∧ w6.tape = w5.tape ∧ w6.output = w5.output) ∧ w6.heap.size = w5.heap.size ∧ w6.heap[mi]? = some (.map (es.push ⟨placeV c.ic c.ii, c.kept, ci⟩) (ci + 1)) ∧ w6.heap[mo]? = some (.map (fs.push ⟨placeV c.oc c.oi, c.kept, co⟩) (co + 1)) ∧ ∀ k, k ≠ mi → k ≠ mo → w6.heap[k]? = w5.heap[k]?)
    (hg7 : ((w6.alloc o).drew).grownBy w7 (Value.slice vo L.length vc).ownBlock) (ho7 : w7.ownsRow base 84 2 (.slice (some ⟨g, 0, none⟩) (L.length + 1) cap) (L.length + 1) (placeCells L ++ [.string c.oc, .int .i64 c.oi]))
    (ha7 : (Value.slice vo L.length vc).ownBlock = some g ∨ g = w6.heap.size + 1) :
    RelAt (w7.setCell ⟨rb, 2, none⟩ (.slice (some ⟨g, 0, none⟩) (L.length + 1) cap)) base rb mi mo (.slice (some ⟨g, 0, none⟩) (L.length + 1) cap) (L ++ [c]) ∧
      ((Value.slice (some ⟨g, 0, none⟩) (L.length + 1) cap).ownBlock = (Value.slice vo L.length vc).ownBlock ∨ ∃ k, (Value.slice (some ⟨g, 0, none⟩) (L.length + 1) cap).ownBlock = some k ∧ w.heap.size ≤ k) ∧
      Fr (RelS rb mi mo (.slice vo L.length vc)) w (w7.setCell ⟨rb, 2, none⟩ (.slice (some ⟨g, 0, none⟩) (L.length + 1) cap)) := by
  obtain ⟨⟨go, gt, gu⟩, gz, gi, gm, gk⟩ := hg6
  have hrn := fun k hk => h.rowne k hk
  have hz := hb.size
  have hrb := lt_of_heap h.rbk
  have hz7 := hg7.size
  simp at hz7
  have hrow : ∀ k, k < w6.heap.size → (Value.slice vo L.length vc).ownBlock ≠ some k → w7.heap[k]? = w6.heap[k]? := fun k hk hn => (hg7.block k (by simp; omega) (fun e => hn e.symm)).trans (alloc_heap o hk)
  have hrb7 : w7.heap[rb]? = some (.cells #[.map (some mi), .map (some mo), .slice vo L.length vc] 82 (0, 0)) :=
    (hrow rb (by omega) (fun e => (hrn rb e).2.2 rfl)).trans ((gk rb h.n1 h.n2).trans ((hb.block rb hrb).trans h.rbk))
  have hgne : g ≠ rb := by
    rcases ha7 with e | e
    · exact (hrn g e).2.2
    · omega
  refine ⟨⟨?_, ⟨_, _, ?_, hl.snoc c ci, born_push heb _ _⟩, ⟨_, _, ?_, hl'.snoc c co, born_push hfb _ _⟩, ?_, h.h1, h.h2, h.h3, h.n1, h.n2, h.n3, by simp; omega, h.uni.snoc hno1 hno2⟩, ?_, ?_⟩
  · simp [World.setCell, Array.getElem?_modify, hrb7]
  · exact (Below.heap_setCell _ _ _ _ (fun e => h.n1 e.symm)).trans ((hrow mi (by omega) (fun e => (hrn mi e).1 rfl)).trans gi)
  · exact (Below.heap_setCell _ _ _ _ (fun e => h.n2 e.symm)).trans ((hrow mo (by omega) (fun e => (hrn mo e).2.1 rfl)).trans gm)
  · have e1 : placeCells (L ++ [c]) = placeCells L ++ [.string c.oc, .int .i64 c.oi] := by simp [placeCells]
    rw [e1, List.length_append, List.length_singleton]
    exact own_setCell ho7 _ _ (by simpa [Value.ownBlock] using hgne)
  · rcases ha7 with e | e
    · exact .inl (by rw [e]; rfl)
    · exact .inr ⟨g, rfl, by omega⟩
  · have f1 : Fr (RelS rb mi mo (.slice vo L.length vc)) w w5 := Fr.below hb
    have f2 : Fr (RelS rb mi mo (.slice vo L.length vc)) w w6 := ⟨go.trans f1.os, gt.trans f1.tape, gu.trans f1.output, by omega, fun k hk hn => (gk k (fun e => hn (.inr (.inl e))) (fun e => hn (.inr (.inr (.inl e))))).trans (f1.block k hk hn)⟩
    exact (((f2.alloc o).drew).trans (Fr.grown hg7 (fun k hk => .inr (.inr (.inr hk))))).set _ _ (fun _ => .inl rfl)
set_option maxRecDepth 100000 in
set_option maxHeartbeats 4000000 in
theorem open_yes (rb base mi mo : Nat) (v : Value) (L : List Circ) (w : World) (h : RelAt w base rb mi mo v L) (c : Circ) (hc : c.fits) (hm : mayB c.ic c.ii = true) (hn : mayB c.oc c.oi = true) (hx : findC (Circ.inIs c.ic c.ii) L 0 = none) (hy : findC (Circ.outIs c.oc c.oi) L 0 = none) (hf : L.length < 256) :
    Calls Try.prog 22 #[.pointer (some ⟨rb, 0, none⟩), c.val] w fun e w' => ∃ v', e = .returned (.int .i64 0) ∧ RelAt w' base rb mi mo v' (L ++ [c]) ∧ (v'.ownBlock = v.ownBlock ∨ ∃ g, v'.ownBlock = some g ∧ w.heap.size ≤ g) ∧ Fr (RelS rb mi mo v) w w' := by
  have HM := Lib.hid hm; clear hm
  have HN := Lib.hid hn; clear hn
  obtain ⟨q1, q2⟩ := hc
  obtain ⟨vo, vc, rfl⟩ := own_slice h.own
  have c2 : w.cell? ⟨rb, 2, none⟩ = some (.slice vo L.length vc) := by simp [World.cell?, h.rbk]
  have hfew := h.few
  obtain ⟨es, ci, m0, hl, heb⟩ := h.mik
  obtain ⟨fs, co, n0, hl', hfb⟩ := h.mok
  have hrb := lt_of_heap h.rbk
  have c0 : w.cell? ⟨rb, 0, none⟩ = some (.map (some mi)) := by simp [World.cell?, h.rbk]
  have c1 : w.cell? ⟨rb, 1, none⟩ = some (.map (some mo)) := by simp [World.cell?, h.rbk]
  have m0 : MapAt w mi es ci := m0
  have n0 : MapAt w mo fs co := n0
  have HM0 := Lib.hid m0; have HN0 := Lib.hid n0; have HEB := Lib.hid heb; have HFB := Lib.hid hfb; clear heb hfb
  have hmd : ∀ (W : World), MapAt W.drew mi es ci = MapAt W mi es ci := fun _ => rfl
  have hnd : ∀ (W : World), MapAt W.drew mo fs co = MapAt W mo fs co := fun _ => rfl
  have hlk : ∀ W : World, MapAt W mi es ci → (Instr.lookup 79 (.map (some mi)) (placeV c.ic c.ii) true).run Try.prog W = .ok (.tuple #[((findC (Circ.inIs c.ic c.ii) L 0).map fun x => x.2.kept).getD zeroKept, .bool (findC (Circ.inIs c.ic c.ii) L 0).isSome]) W :=
    fun W hW => run_look Circ.inV (Circ.inIs c.ic c.ii) c.ic c.ii (key_in c.ic c.ii) es ci mi L W hl (fun c => ⟨_, _, rfl⟩) hW
  have hlk' : ∀ W : World, MapAt W mo fs co → (Instr.lookup 79 (.map (some mo)) (placeV c.oc c.oi) true).run Try.prog W = .ok (.tuple #[((findC (Circ.outIs c.oc c.oi) L 0).map fun x => x.2.kept).getD zeroKept, .bool (findC (Circ.outIs c.oc c.oi) L 0).isSome]) W :=
    fun W hW => run_look Circ.outV (Circ.outIs c.oc c.oi) c.oc c.oi (key_out c.oc c.oi) fs co mo L W hl' (fun c => ⟨_, _, rfl⟩) hW
  unfold placeV at hlk hlk'
  rw [hx] at hlk
  rw [hy] at hlk'
  simp only [Option.map_none, Option.getD_none, Option.isSome_none, zeroKept, Circ.kept, Circ.zero] at hlk
  simp only [Option.map_none, Option.getD_none, Option.isSome_none, zeroKept, Circ.kept, Circ.zero] at hlk'
  obtain ⟨i0, hi0, hz0, hz1, hz2⟩ := info_parts Try.info84
  have HRN : Hid ((Value.slice vo L.length vc).ownBlock ≠ some rb) := fun e => (h.rowne rb e).2.2 rfl
  have HX := Lib.hid hx; have HY := Lib.hid hy; have HH := Lib.hid h; clear hx hy h
  unfold Circ.val
  go_enter Try.func22, Try.ntmps22
  go_wp2_with (first | (go_at_call 39; (with_reducible refine Calls.mono (keep_lit c _) ?_); rintro e w1 ⟨rfl, hb1⟩; obtain ⟨hc1, hf1⟩ := bcell hb1; have m1 := (m0.alloc _).below hb1; have n1 := (n0.alloc _).below hb1; have c01 := cell_later hb1 (cell_alloc _ c0); have c11 := cell_later hb1 (cell_alloc _ c1); have c21 := cell_later hb1 (cell_alloc _ c2); clear c0 c1 c2 m0 n0; have z1 := hb1.size; try simp only [World.size_alloc] at z1) | (go_at_call 40; (with_reducible refine Calls.mono (may_b c.ic c.ii _ q1 true HM.out) ?_); rintro e w2 ⟨rfl, hb2⟩; obtain ⟨hc2, hf2⟩ := bcell hb2; have m2 := (m1.alloc _).below hb2; have n2 := (n1.alloc _).below hb2; have c02 := cell_later hb2 (cell_alloc _ c01); have c12 := cell_later hb2 (cell_alloc _ c11); have c22 := cell_later hb2 (cell_alloc _ c21); have K2 := Lib.hid ((hb2.block _ (by simp)).trans (heap_alloc_at w1 _)); clear c01 c11 c21 m1 n1 hc1 hf1; have z2 := hb2.size; try simp only [World.size_alloc] at z2) | (go_at_call 40; (with_reducible refine Calls.mono (may_b c.oc c.oi _ q2 true HN.out) ?_); rintro e w3 ⟨rfl, hb3⟩; obtain ⟨hc3, hf3⟩ := bcell hb3; have m3 := m2.below hb3; have n3 := n2.below hb3; have m3a : ∀ o, MapAt (w3.alloc o) mi es ci := (fun o => m3.alloc o); have m3b : ∀ o o', MapAt ((w3.alloc o).alloc o') mi es ci := (fun o o' => (m3.alloc o).alloc o'); have n3a : ∀ o, MapAt (w3.alloc o) mo fs co := (fun o => n3.alloc o); have n3b : ∀ o o', MapAt ((w3.alloc o).alloc o') mo fs co := (fun o o' => (n3.alloc o).alloc o'); have c03 := cell_later hb3 c02; have c13 := cell_later hb3 c12; have c23 := cell_later hb3 c22; have K3 := Lib.hid ((hb3.block _ (by omega)).trans K2.out); obtain ⟨k0, k1, k2, k3, k4, k5, k6, k7, k8, k9, ka, kb, kc, kd⟩ := kept_cells c K3.out; clear c02 c12 c22 m2 n2 hc2 hf2 hc3 hf3; have zk : w1.heap.size < w3.heap.size := (by have := hb3.size; have := hb2.size; simp only [World.size_alloc] at *; omega); have zr : rb < w3.heap.size := World.block_lt_of_cell? _ _ c03; have z3 := hb3.size; try simp only [World.size_alloc] at z3))
  go_region
  go_wp2
  go_region
  go_wp2
  have m5 := m3b (.cells #[.string ⟨#[]⟩, .int .i64 0, .string ⟨#[]⟩, .int .i64 0, .string ⟨#[]⟩, .int .i64 0, .string ⟨#[]⟩, .int .i64 0, .int .i64 0, .int .i64 0, .int .i64 0, .int .i64 0, .string ⟨#[]⟩, .string ⟨#[]⟩] 88) (.cells #[.string ⟨#[]⟩, .int .i64 0, .string ⟨#[]⟩, .int .i64 0, .string ⟨#[]⟩, .int .i64 0, .string ⟨#[]⟩, .int .i64 0, .int .i64 0, .int .i64 0, .int .i64 0, .int .i64 0, .string ⟨#[]⟩, .string ⟨#[]⟩] 88)
  have b5 : Below w3.heap.size w3 ((w3.alloc (.cells #[.string ⟨#[]⟩, .int .i64 0, .string ⟨#[]⟩, .int .i64 0, .string ⟨#[]⟩, .int .i64 0, .string ⟨#[]⟩, .int .i64 0, .int .i64 0, .int .i64 0, .int .i64 0, .int .i64 0, .string ⟨#[]⟩, .string ⟨#[]⟩] 88)).alloc (.cells #[.string ⟨#[]⟩, .int .i64 0, .string ⟨#[]⟩, .int .i64 0, .string ⟨#[]⟩, .int .i64 0, .string ⟨#[]⟩, .int .i64 0, .int .i64 0, .int .i64 0, .int .i64 0, .int .i64 0, .string ⟨#[]⟩, .string ⟨#[]⟩] 88)).drew.drew := ((((Below.refl _ _).alloc (Nat.le_refl _) _).alloc (by simp) _).drew).drew
  generalize ((w3.alloc (.cells #[.string ⟨#[]⟩, .int .i64 0, .string ⟨#[]⟩, .int .i64 0, .string ⟨#[]⟩, .int .i64 0, .string ⟨#[]⟩, .int .i64 0, .int .i64 0, .int .i64 0, .int .i64 0, .int .i64 0, .string ⟨#[]⟩, .string ⟨#[]⟩] 88)).alloc (.cells #[.string ⟨#[]⟩, .int .i64 0, .string ⟨#[]⟩, .int .i64 0, .string ⟨#[]⟩, .int .i64 0, .string ⟨#[]⟩, .int .i64 0, .int .i64 0, .int .i64 0, .int .i64 0, .int .i64 0, .string ⟨#[]⟩, .string ⟨#[]⟩] 88)).drew.drew = w5 at b5 ⊢
  have m5 : MapAt w5 mi es ci := m3.below b5
  have n5 : MapAt w5 mo fs co := n3.below b5
  have c05 := cell_later b5 c03
  have c15 := cell_later b5 c13
  have c25 := cell_later b5 c23
  have zz : w.heap.size < w1.heap.size := by have := hb1.size; simp only [World.size_alloc] at this; omega
  have zmi : mi < w.heap.size := lt_of_heap HM0.out
  have zmo : mo < w.heap.size := lt_of_heap HN0.out
  have hw15 : w1.heap.size < w5.heap.size := by have := b5.size; omega
  have K5 := Lib.hid ((b5.block _ zk).trans K3.out)
  have hB15 : Hid (Below w.heap.size w w5) := ((((((Below.refl _ _).alloc (Nat.le_refl _) _).trans (hb1.mono (by simp))).alloc (by omega) _).trans (hb2.mono (by simp; omega))).trans (hb3.mono (by omega))).trans (b5.mono (by omega))
  clear k0 k1 k2 k3 k4 k5 k6 k7 k8 k9 ka kb kc kd c03 c13 c23 m3a m3b n3a n3b m3 n3 hmd hnd hlk hlk' zr zk K2 K3 b5 hb1 hb2 hb3 z1 z2 z3
  obtain ⟨kb, hkb⟩ : ∃ kb, w1.heap.size = kb := ⟨_, rfl⟩
  rw [hkb] at K5 zz hw15 ⊢
  clear hkb
  obtain ⟨k0, k1, k2, k3, k4, k5, k6, k7, k8, k9, ka, kb', kc, kd⟩ := kept_cells c K5.out
  have neA : kb ≠ mi := by omega
  have neB : kb ≠ mo := by omega
  have ne1 : rb ≠ mi := HH.out.n1
  have ne2 : rb ≠ mo := HH.out.n2
  have ne3 : mi ≠ mo := HH.out.n3
  have ne4 : mo ≠ mi := fun e => ne3 e.symm
  obtain ⟨E1, hE1⟩ : ∃ E, es.push ⟨placeV c.ic c.ii, zeroKept, ci⟩ = E := ⟨_, rfl⟩
  obtain ⟨E2, hE2⟩ : ∃ E, es.push ⟨placeV c.ic c.ii, c.kept, ci⟩ = E := ⟨_, rfl⟩
  obtain ⟨F1, hF1⟩ : ∃ E, fs.push ⟨placeV c.oc c.oi, zeroKept, co⟩ = E := ⟨_, rfl⟩
  obtain ⟨F2, hF2⟩ : ∃ E, fs.push ⟨placeV c.oc c.oi, c.kept, co⟩ = E := ⟨_, rfl⟩
  obtain ⟨c1i, hc1i⟩ : ∃ k, ci + 1 = k := ⟨_, rfl⟩
  obtain ⟨c1o, hc1o⟩ : ∃ k, co + 1 = k := ⟨_, rfl⟩
  have hme : ∀ W : World, MapAt W mi es ci → (Instr.mapEntry 79 (.map (some mi)) (.agg #[.string c.ic, .int .i64 c.ii])).run Try.prog W = .ok (.tuple #[.agg #[.string ⟨#[]⟩, .int .i64 0, .string ⟨#[]⟩, .int .i64 0, .string ⟨#[]⟩, .int .i64 0, .string ⟨#[]⟩, .int .i64 0, .int .i64 0, .int .i64 0, .int .i64 0, .int .i64 0, .string ⟨#[]⟩, .string ⟨#[]⟩], .int .i64 (ci : Int)]) (putO W mi (.map E1 c1i)) := by
    intro W hW
    have := run_entry Circ.inV (Circ.inIs c.ic c.ii) c.ic c.ii (key_in c.ic c.ii) es ci mi L W hl (fun c => ⟨_, _, rfl⟩) hW HX.out
    rw [hE1, hc1i] at this
    exact this
  have hne : ∀ W : World, MapAt W mo fs co → (Instr.mapEntry 79 (.map (some mo)) (.agg #[.string c.oc, .int .i64 c.oi])).run Try.prog W = .ok (.tuple #[.agg #[.string ⟨#[]⟩, .int .i64 0, .string ⟨#[]⟩, .int .i64 0, .string ⟨#[]⟩, .int .i64 0, .string ⟨#[]⟩, .int .i64 0, .int .i64 0, .int .i64 0, .int .i64 0, .int .i64 0, .string ⟨#[]⟩, .string ⟨#[]⟩], .int .i64 (co : Int)]) (putO W mo (.map F1 c1o)) := by
    intro W hW
    have := run_entry Circ.outV (Circ.outIs c.oc c.oi) c.oc c.oi (key_out c.oc c.oi) fs co mo L W hl' (fun c => ⟨_, _, rfl⟩) hW HY.out
    rw [hF1, hc1o] at this
    exact this
  have hms : ∀ W : World, MapAt W mi E1 c1i → (Instr.entryStore 79 (.map (some mi)) (.int .i64 (ci : Int)) (.agg #[.string c.ic, .int .i64 c.ii, .string c.oc, .int .i64 c.oi, .string c.ic, .int .i64 c.ii, .string c.oc, .int .i64 c.oi, .int .i64 c.ia, .int .i64 c.oa, .int .i64 c.ie, .int .i64 c.oe, .string c.hash, .string c.sh])).run Try.prog W = .ok () (putO W mi (.map E2 c1i)) := by
    intro W hW
    rw [← hE1, ← hc1i] at hW
    have := run_entryStore es ci mi W _ _ c.kept hW HEB.out
    rw [hE2, hc1i] at this
    exact this
  have hns : ∀ W : World, MapAt W mo F1 c1o → (Instr.entryStore 79 (.map (some mo)) (.int .i64 (co : Int)) (.agg #[.string c.ic, .int .i64 c.ii, .string c.oc, .int .i64 c.oi, .string c.ic, .int .i64 c.ii, .string c.oc, .int .i64 c.oi, .int .i64 c.ia, .int .i64 c.oa, .int .i64 c.ie, .int .i64 c.oe, .string c.hash, .string c.sh])).run Try.prog W = .ok () (putO W mo (.map F2 c1o)) := by
    intro W hW
    rw [← hF1, ← hc1o] at hW
    have := run_entryStore fs co mo W _ _ c.kept hW HFB.out
    rw [hF2, hc1o] at this
    exact this
  have q1 : ∀ (W : World) (o : Obj) (e : Array MapEntry) (n : Nat), MapAt (putO W mi o) mo e n = MapAt W mo e n := fun W o e n => by unfold MapAt; rw [putO_other ne4]
  have q2 : ∀ (W : World) (o : Obj) (e : Array MapEntry) (n : Nat), MapAt (putO W mo o) mi e n = MapAt W mi e n := fun W o e n => by unfold MapAt; rw [putO_other ne3]
  have q3 : ∀ (W : World) (e : Array MapEntry) (n : Nat), MapAt (putO W mi (.map e n)) mi e n = (mi < W.heap.size) := fun W e n => propext ⟨fun h => by have := lt_of_heap h; simpa using this, fun h => putO_same (Array.getElem?_eq_getElem h)⟩
  have q4 : ∀ (W : World) (e : Array MapEntry) (n : Nat), MapAt (putO W mo (.map e n)) mo e n = (mo < W.heap.size) := fun W e n => propext ⟨fun h => by have := lt_of_heap h; simpa using this, fun h => putO_same (Array.getElem?_eq_getElem h)⟩
  have q5 : ∀ (W : World) (b : Nat) (o : Obj), (putO W b o).heap.size = W.heap.size := putO_size
  have q6 : ∀ (W : World) (e : Array MapEntry) (n b : Nat), MapAt W.drew b e n = MapAt W b e n := fun _ _ _ _ => rfl
  have hcl : ∀ (W : World) (b k off : Nat) (o : Obj), k ≠ b → (putO W b o).cell? ⟨k, off, none⟩ = W.cell? ⟨k, off, none⟩ := fun W b k off o h => World.cell?_of_block (putO_other h)
  have hcl1 := fun (W : World) off o => hcl W mi rb off o ne1
  have hcl2 := fun (W : World) off o => hcl W mo rb off o ne2
  have hcl3 := fun (W : World) off o => hcl W mi kb off o neA
  have hcl4 := fun (W : World) off o => hcl W mo kb off o neB
  have zi5 : mi < w5.heap.size := by omega
  have zo5 : mo < w5.heap.size := by omega
  clear hcl
  have HE2 := Lib.hid hE2; have HF2 := Lib.hid hF2; have HCI := Lib.hid hc1i; have HCO := Lib.hid hc1o
  clear hE1 hE2 hF1 hF2 hc1i hc1o
  go_region_held3 (fun w' => w'.cell? ⟨rb, 0, none⟩ = some (.map (some mi)) ∧ w'.cell? ⟨rb, 1, none⟩ = some (.map (some mo)) ∧ w'.cell? ⟨kb, 0, none⟩ = some (.string c.ic) ∧ w'.cell? ⟨kb, 1, none⟩ = some (.int .i64 c.ii) ∧ w'.cell? ⟨kb, 2, none⟩ = some (.string c.oc) ∧ w'.cell? ⟨kb, 3, none⟩ = some (.int .i64 c.oi) ∧ w'.cell? ⟨kb, 4, none⟩ = some (.string c.ic) ∧ w'.cell? ⟨kb, 5, none⟩ = some (.int .i64 c.ii) ∧ w'.cell? ⟨kb, 6, none⟩ = some (.string c.oc) ∧ w'.cell? ⟨kb, 7, none⟩ = some (.int .i64 c.oi) ∧ w'.cell? ⟨kb, 8, none⟩ = some (.int .i64 c.ia) ∧ w'.cell? ⟨kb, 9, none⟩ = some (.int .i64 c.oa) ∧ w'.cell? ⟨kb, 10, none⟩ = some (.int .i64 c.ie) ∧ w'.cell? ⟨kb, 11, none⟩ = some (.int .i64 c.oe) ∧ w'.cell? ⟨kb, 12, none⟩ = some (.string c.hash) ∧ w'.cell? ⟨kb, 13, none⟩ = some (.string c.sh)) (go_keep) (fail)
  clear hme hne hms hns q1 q2 q3 q4 q6 hcl1 hcl2 hcl3 hcl4 c05 c15 c25 k0 k1 k2 k3 k4 k5 k6 k7 k8 k9 ka kb' kc kd
  have P6 := Lib.hid (put4 w5.drew mi mo (.map E1 c1i) (.map E2 c1i) (.map F1 c1o) (.map F2 c1o) zi5 zo5 ne3)
  generalize putO (putO (putO (putO w5.drew mi (.map E1 c1i)) mi (.map E2 c1i)) mo (.map F1 c1o)) mo (.map F2 c1o) = w6 at P6 ⊢
  have r6 : w6.heap[rb]? = some (.cells #[.map (some mi), .map (some mo), .slice vo L.length vc] 82 (0, 0)) := (P6.out.2.2.2.2 rb ne1 ne2).trans ((hB15.out.toFr.block rb hrb (fun h => h)).trans HH.out.rbk)
  have c26 : w6.cell? ⟨rb, 2, none⟩ = some (.slice vo L.length vc) := by simp [World.cell?, r6]
  have f26 : w6.frozen? ⟨rb, 2, none⟩ = false := by simp [World.frozen?, r6]
  have K6 := Lib.hid ((P6.out.2.2.2.2 kb neA neB).trans K5.out)
  obtain ⟨k0, k1, k2, k3, k4, k5, k6, k7, k8, k9, ka, kb', kc, kd⟩ := kept_cells c K6.out
  clear k0 k1 k4 k5 k6 k7 k8 k9 ka kb' kc kd
  have z6 : w6.heap.size = w5.heap.size := P6.out.2.1
  have hbw : w.heap.size ≤ w6.heap.size := by rw [z6]; exact hB15.out.size
  have zb6 : rb < w6.heap.size := by omega
  have zk6 : kb < w6.heap.size := by omega
  have R6 := Lib.hid r6; clear r6 
  have Z6 := Lib.hid z6; clear z6
  have O6 : Hid (w6.ownsRow base 84 2 (.slice vo L.length vc) L.length (placeCells L)) := own6 HH.out hB15.out P6.out.2.2.2.2 P6.out.2.1
  have hbb : base ≤ w.heap.size := by have := HH.out.h1; omega
  go_wp2_with fail
  go_region_law ((refine step_append_lies _ (by rfl) _ _ _ (by rfl) base 84 i0 _ 2 24 Try.underlying80 hi0 hz0 hz1 hz2 rfl (by omega) (.slice vo L.length vc) L.length (placeCells L) (by rfl) ((O6.out.alloc _).drew) ⟨w6.heap.size, 0, none⟩ 1 1 [.string c.oc, .int .i64 c.oi] (by rfl) (by rfl) (World.news_of_block (cs := #[.string c.oc, .int .i64 c.oi]) (t := 84) (fr := (0, 0)) (heap_alloc_at w6 _)) (by simp [Value.oneCell']) (by omega) (by unfold maxLen; omega) (by omega) (by simp; omega) (w6.heap.size + 1) (by simp) ?_; intro g cap w7 hown7 hgrow7 hat7 hlt7; have c27 := cellrow hgrow7 c26 HRN.out; have f27 := frzrow hgrow7 f26 zb6 HRN.out; have HG7 := Lib.hid hgrow7; have HO7 := Lib.hid hown7; have HA7 := Lib.hid hat7; clear hgrow7 hown7 hat7))
  all_goals
    go_wp2
    go_ret
    have hg6 := P6.out
    rw [← HE2.out, ← HF2.out, ← HCI.out, ← HCO.out] at hg6
    exact ⟨_, rfl, open_end c HH.out hB15.out hl hl' HEB.out HFB.out zmi zmo hf HX.out HY.out hg6 HG7.out HO7.out HA7.out⟩
end Go.Proofs.Ytjdbnaedlljfhaa
