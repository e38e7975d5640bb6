/- The relay: Close. -/
import Derived.Test.YtjdbnaedlljfhaaRel5
namespace Go.Proofs.Ytjdbnaedlljfhaa
open Go.RowKit

/-- delete(m, k) where the key is there -/
theorem run_del (key : Circ → Value) (p : Circ → Bool) (n : ByteArray) (i : Int) (hk : ∀ c w, (Op.equal 84 (placeV n i) (key c)).run Try.prog w = .ok (p c) w) (es : Array MapEntry) (c mb : Nat) (L : List Circ) (w : World) (h : Lies key es.toList L)
    (hp : ∀ c : Circ, ∃ n' i', key c = placeV n' i') (hb : MapAt w mb es c) (ty : TypeId) (j : Nat) (k : Circ) (hf : findC p L 0 = some (j, k)) :
    (Builtin.delete_ #[79, 84] ty #[.map (some mb), placeV n i]).run Try.prog w = .ok (.tuple #[]) (putO w mb (.map (es.eraseIdxIfInBounds j) c)) := by
  have hr := run_findKey_place key p n i hk es.toList L w h hp
  rw [hf] at hr
  simp only [Option.map_some] at hr
  simp [Builtin.delete_, run_underlying Try.underlying79, run_getObj_map w mb es c hb, run_checkKey_place, hr, MapKept.run_setObj_map _ hb, Result.andThen]
  rfl
theorem map_er {α β : Type} (f : α → β) : ∀ (l : List α) (j : Nat), (l.eraseIdx j).map f = (l.map f).eraseIdx j
  | [], _ => rfl
  | _ :: _, 0 => rfl
  | x :: l, j + 1 => by simp [List.eraseIdx_cons_succ, map_er f l j]
theorem Lies.erase {key : Circ → Value} {es : Array MapEntry} {L : List Circ} (h : Lies key es.toList L) (j : Nat) : Lies key (es.eraseIdxIfInBounds j).toList (L.eraseIdx j) := by
  unfold Lies at *
  have e : (es.eraseIdxIfInBounds j).toList = es.toList.eraseIdx j := by
    unfold Array.eraseIdxIfInBounds
    split
    · simp
    · rename_i hj
      rw [List.eraseIdx_of_length_le (by simpa using hj)]
  rw [e, map_er, h, map_er]
theorem born_erase {es : Array MapEntry} {c : Nat} (h : ∀ e ∈ es.toList, e.born < c) (j : Nat) : ∀ e ∈ (es.eraseIdxIfInBounds j).toList, e.born < c := by
  intro e he
  unfold Array.eraseIdxIfInBounds at he
  split at he
  · simp at he; exact h e (List.mem_of_mem_eraseIdx (by simpa using he))
  · exact h e he
theorem put2 (w : World) (mi mo : Nat) (a b : Obj) (hi : mi < w.heap.size) (ho : mo < w.heap.size) (hne : mi ≠ mo) :
    (let w' := putO (putO w.drew mi a).drew mo b
     (w'.os = w.os ∧ w'.tape = w.tape ∧ w'.output = w.output) ∧ w'.heap.size = w.heap.size ∧ w'.heap[mi]? = some a ∧ w'.heap[mo]? = some b ∧ ∀ k, k ≠ mi → k ≠ mo → w'.heap[k]? = w.heap[k]?) := by
  have e1 : (putO w.drew mi a).drew.heap = (putO w.drew mi a).heap := rfl
  have e2 : w.drew.heap = w.heap := rfl
  refine ⟨⟨rfl, rfl, rfl⟩, by rw [putO_size, e1, putO_size, e2], ?_, ?_, ?_⟩
  · rw [putO_other hne, e1]
    exact putO_same (Array.getElem?_eq_getElem (by rw [e2]; exact hi))
  · exact putO_same (Array.getElem?_eq_getElem (by rw [e1, putO_size, e2]; exact ho))
  · intro k h1 h2
    rw [putO_other h2, e1, putO_other h1, e2]
theorem Uniq.erase {L : List Circ} (h : Uniq L) (j : Nat) : Uniq (L.eraseIdx j) := by
  intro a b c d ha hb hcd
  rw [List.getElem?_eraseIdx] at ha hb
  split at ha <;> split at hb
  · exact h _ _ _ _ ha hb hcd
  · have := h _ _ _ _ ha hb hcd; omega
  · have := h _ _ _ _ ha hb hcd; omega
  · have := h _ _ _ _ ha hb hcd; omega
/-- the one that is found is the first, and there is no other -/
theorem find_in {L : List Circ} (h : Uniq L) {j : Nat} {k : Circ} (hj : L[j]? = some k) : findC (Circ.inIs k.ic k.ii) L 0 = some (j, k) := by
  have key : ∀ (M : List Circ) (i m : Nat), (∀ (t : Nat) (x : Circ), M[t]? = some x → Circ.inIs k.ic k.ii x = true → t = m) → M[m]? = some k → findC (Circ.inIs k.ic k.ii) M i = some (i + m, k) := by
    intro M
    induction M with
    | nil => intro i m _ hm; simp at hm
    | cons x M ih =>
      intro i m hu hm
      unfold findC
      cases m with
      | zero =>
        simp at hm; subst hm
        rw [if_pos (by unfold Circ.inIs sameP; simp)]
        rfl
      | succ m =>
        have hx : ¬ Circ.inIs k.ic k.ii x = true := fun e => by have := hu 0 x (by simp) e; omega
        rw [if_neg hx, ih (i + 1) m (fun t y ht hy => by have := hu (t + 1) y (by simpa using ht) hy; omega) (by simpa using hm)]
        rw [show i + 1 + m = i + (m + 1) by omega]
  have := key L 0 j (fun t x ht hx => h t j x k ht hj (.inl hx)) hj
  simpa using this
theorem find_out {L : List Circ} (h : Uniq L) {j : Nat} {k : Circ} (hj : L[j]? = some k) : findC (Circ.outIs k.oc k.oi) L 0 = some (j, k) := by
  have key : ∀ (M : List Circ) (i m : Nat), (∀ (t : Nat) (x : Circ), M[t]? = some x → Circ.outIs k.oc k.oi x = true → t = m) → M[m]? = some k → findC (Circ.outIs k.oc k.oi) M i = some (i + m, k) := by
    intro M
    induction M with
    | nil => intro i m _ hm; simp at hm
    | cons x M ih =>
      intro i m hu hm
      unfold findC
      cases m with
      | zero =>
        simp at hm; subst hm
        rw [if_pos (by unfold Circ.outIs sameP; simp)]
        rfl
      | succ m =>
        have hx : ¬ Circ.outIs k.oc k.oi x = true := fun e => by have := hu 0 x (by simp) e; omega
        rw [if_neg hx, ih (i + 1) m (fun t y ht hy => by have := hu (t + 1) y (by simpa using ht) hy; omega) (by simpa using hm)]
        rw [show i + 1 + m = i + (m + 1) by omega]
  have := key L 0 j (fun t x ht hx => h t j x k ht hj (.inr hx)) hj
  simpa using this
def ClosePost (w : World) (base rb mi mo : Nat) (v : Value) (L : List Circ) (x : Option (Nat × Circ)) (e : Ending) (w' : World) : Prop :=
  match x with
  | none => e = .returned (.tuple #[Circ.zero.val, .int .i64 5]) ∧ Below w.heap.size w w'
  | some (j, k) => e = .returned (.tuple #[k.val, .int .i64 0]) ∧ ∃ v', RelAt w' base rb mi mo v' (L.eraseIdx j) ∧ v'.ownBlock = v.ownBlock ∧ Fr (RelS rb mi mo v) w w'
set_option maxRecDepth 100000 in
set_option maxHeartbeats 2000000 in
theorem close_none (rb base mi mo : Nat) (v : Value) (L : List Circ) (w : World) (h : RelAt w base rb mi mo v L) (n : ByteArray) (i : Int) (hx : findC (Circ.outIs n i) L 0 = none) :
    Calls Try.prog 20 #[.pointer (some ⟨rb, 0, none⟩), .string n, .int .i64 i] w fun e w' => e = .returned (.tuple #[Circ.zero.val, .int .i64 5]) ∧ Below w.heap.size w w' := by
  obtain ⟨es, c, hb, hl, _⟩ := h.mok
  have hmo := lt_of_heap hb
  have hrb := lt_of_heap h.rbk
  have hma : ∀ (W : World) (o : Obj), MapAt W mo es c → MapAt (W.alloc o) mo es c := fun _ o h => h.alloc o
  have hm0 : MapAt w mo es c := hb
  have hlk : ∀ W : World, MapAt W mo es c → (Instr.lookup 79 (.map (some mo)) (placeV n i) true).run Try.prog W = .ok (.tuple #[((findC (Circ.outIs n i) L 0).map fun x => x.2.kept).getD zeroKept, .bool (findC (Circ.outIs n i) L 0).isSome]) W :=
    fun W hW => run_look Circ.outV (Circ.outIs n i) n i (key_out n i) es c mo L W hl (fun c => ⟨_, _, rfl⟩) hW
  have hc : w.cell? ⟨rb, 1, none⟩ = some (.map (some mo)) := by simp [World.cell?, h.rbk]
  clear hb
  unfold placeV at hlk
  rw [hx] at hlk
  simp only [Option.map_none, Option.getD_none, Option.isSome_none, zeroKept, Circ.kept, Circ.zero] at hlk
  clear h hx
  go_enter Try.func20, Try.ntmps20
  go_wp2
  exact bodyPost_ret (v := .tuple #[.agg #[.string ⟨#[]⟩, .int .i64 0, .string ⟨#[]⟩, .int .i64 0, .int .i64 0, .int .i64 0, .int .i64 0, .int .i64 0, .string ⟨#[]⟩, .string ⟨#[]⟩], .int .i64 5]) (by simp [results, Try.results20, go_sem]) rfl ⟨rfl, (by (repeat' (first | (with_reducible exact Below.refl _ _) | (with_reducible refine Below.alloc ?_ ?_ _) | (with_reducible refine Below.drew ?_) | (with_reducible refine Below.setCell ?_ ?_ _) | (with_reducible refine below_drewN ?_ _) | (refine Below.trans ?_ (Below.mono (by assumption) ?_)) | go_size)))⟩
theorem ten_cells {w : World} {b : Nat} (a0 : ByteArray) (a1 : Int) (a2 : ByteArray) (a3 a4 a5 a6 a7 : Int) (a8 a9 : ByteArray) (h : w.heap[b]? = some (.cells #[.string a0, .int .i64 a1, .string a2, .int .i64 a3, .int .i64 a4, .int .i64 a5, .int .i64 a6, .int .i64 a7, .string a8, .string a9] 44 (0, 0))) :
    (w.cell? ⟨b, 0, none⟩ = some (.string a0) ∧ w.cell? ⟨b, 1, none⟩ = some (.int .i64 a1) ∧ w.cell? ⟨b, 2, none⟩ = some (.string a2) ∧ w.cell? ⟨b, 3, none⟩ = some (.int .i64 a3) ∧ w.cell? ⟨b, 4, none⟩ = some (.int .i64 a4) ∧ w.cell? ⟨b, 5, none⟩ = some (.int .i64 a5) ∧ w.cell? ⟨b, 6, none⟩ = some (.int .i64 a6) ∧
    w.cell? ⟨b, 7, none⟩ = some (.int .i64 a7) ∧ w.cell? ⟨b, 8, none⟩ = some (.string a8) ∧ w.cell? ⟨b, 9, none⟩ = some (.string a9)) := by
  simp [World.cell?, h]
theorem close_mid {w w2 w4 w5 w6 : World} {base rb mi mo kb : Nat} {v : Value} {L : List Circ} {k : Circ} {va : Option Addr} {vc : Nat} {o1 o2 : Obj} (h : RelAt w base rb mi mo v L) (hb : Below w.heap.size w w2)
    (hp : (w4.os = w2.os ∧ w4.tape = w2.tape ∧ w4.output = w2.output) ∧ w4.heap.size = w2.heap.size ∧ w4.heap[mi]? = some o1 ∧ w4.heap[mo]? = some o2 ∧ ∀ k, k ≠ mi → k ≠ mo → w4.heap[k]? = w2.heap[k]?) (hv : v = .slice va L.length vc) (hkb : w.heap.size + 1 = kb) (hz2 : w.heap.size + 2 = w2.heap.size)
    (hb5 : Below w4.drew.heap.size w4.drew w5) (hf : Fr (fun k => (Value.slice va L.length vc).ownBlock = some k) w5 w6) (r4 : w4.heap[rb]? = some (.cells #[.map (some mi), .map (some mo), v] 82 (0, 0)))
    (k4 : w4.heap[kb]? = some (.cells #[.string k.ic, .int .i64 k.ii, .string k.oc, .int .i64 k.oi, .string k.ic, .int .i64 k.ii, .string k.oc, .int .i64 k.oi, .int .i64 k.ia, .int .i64 k.oa, .int .i64 k.ie, .int .i64 k.oe, .string k.hash, .string k.sh] 88 (0, 0)))
    (r2 : w2.heap[w.heap.size]? = some (.cells #[.string ⟨#[]⟩, .int .i64 0, .string ⟨#[]⟩, .int .i64 0, .int .i64 0, .int .i64 0, .int .i64 0, .int .i64 0, .string ⟨#[]⟩, .string ⟨#[]⟩] 44 (0, 0))) :
    w6.heap[rb]? = some (.cells #[.map (some mi), .map (some mo), .slice va L.length vc] 82 (0, 0)) ∧
    (w6.heap[mi]? = some o1 ∧ w6.heap[mo]? = some o2) ∧ Fr (RelS rb mi mo v) w w6 ∧
    (w6.cell? ⟨kb, 4, none⟩ = some (.string k.ic) ∧ w6.cell? ⟨kb, 5, none⟩ = some (.int .i64 k.ii) ∧ w6.cell? ⟨kb, 6, none⟩ = some (.string k.oc) ∧
      w6.cell? ⟨kb, 7, none⟩ = some (.int .i64 k.oi) ∧ w6.cell? ⟨kb, 8, none⟩ = some (.int .i64 k.ia) ∧ w6.cell? ⟨kb, 9, none⟩ = some (.int .i64 k.oa) ∧ w6.cell? ⟨kb, 10, none⟩ = some (.int .i64 k.ie) ∧ w6.cell? ⟨kb, 11, none⟩ = some (.int .i64 k.oe) ∧ w6.cell? ⟨kb, 12, none⟩ = some (.string k.hash) ∧ w6.cell? ⟨kb, 13, none⟩ = some (.string k.sh)) ∧
    (w6.cell? ⟨w.heap.size, 0, none⟩ = some (.string ⟨#[]⟩) ∧ w6.cell? ⟨w.heap.size, 1, none⟩ = some (.int .i64 0) ∧ w6.cell? ⟨w.heap.size, 2, none⟩ = some (.string ⟨#[]⟩) ∧ w6.cell? ⟨w.heap.size, 3, none⟩ = some (.int .i64 0) ∧ w6.cell? ⟨w.heap.size, 4, none⟩ = some (.int .i64 0) ∧ w6.cell? ⟨w.heap.size, 5, none⟩ = some (.int .i64 0) ∧ w6.cell? ⟨w.heap.size, 6, none⟩ = some (.int .i64 0) ∧
      w6.cell? ⟨w.heap.size, 7, none⟩ = some (.int .i64 0) ∧ w6.cell? ⟨w.heap.size, 8, none⟩ = some (.string ⟨#[]⟩) ∧ w6.cell? ⟨w.heap.size, 9, none⟩ = some (.string ⟨#[]⟩) ∧ w6.heap[w.heap.size]? = some (.cells #[.string ⟨#[]⟩, .int .i64 0, .string ⟨#[]⟩, .int .i64 0, .int .i64 0, .int .i64 0, .int .i64 0, .int .i64 0, .string ⟨#[]⟩, .string ⟨#[]⟩] 44 (0, 0))) := by
  obtain ⟨⟨po, pt, pu⟩, pz, pi, pm, pk⟩ := hp
  have hrn := fun k hk => h.rowne k hk
  have hown := fun k hk => (h.own.lt k hk).2
  rw [hv] at hrn hown
  have hz5 := hb5.size
  have e4 : w4.drew.heap = w4.heap := rfl
  have st : ∀ b, b < w4.heap.size → (Value.slice va L.length vc).ownBlock ≠ some b → w6.heap[b]? = w4.heap[b]? := fun b hb' hne => (hf.block b (Nat.lt_of_lt_of_le hb' hz5) hne).trans (hb5.block b hb')
  have hmi : mi < w.heap.size := lt_of_heap h.mik.choose_spec.choose_spec.1
  have hmo : mo < w.heap.size := lt_of_heap h.mok.choose_spec.choose_spec.1
  have hrb := lt_of_heap h.rbk
  have R6 := (st rb (by omega) (fun e => (hrn rb e).2.2 rfl)).trans r4
  have K6 := (st kb (by omega) (fun e => by have := hown kb e; omega)).trans k4
  have Z6 := (st w.heap.size (by omega) (fun e => by have := hown _ e; omega)).trans ((pk _ (by omega) (by omega)).trans r2)
  refine ⟨by rw [R6, hv], ⟨(st mi (by omega) (fun e => (hrn mi e).1 rfl)).trans pi, (st mo (by omega) (fun e => (hrn mo e).2.1 rfl)).trans pm⟩, ?_, (kept_cells k K6).2.2.2.2, ?_⟩
  · refine ⟨hf.os.trans (hb5.os.trans (po.trans hb.os)), hf.tape.trans (hb5.tape.trans (pt.trans hb.tape)), hf.output.trans (hb5.output.trans (pu.trans hb.output)), ?_, fun b hb' hn => ?_⟩
    · have := hf.size; have e5 : w4.drew.heap.size = w4.heap.size := rfl; omega
    · exact (st b (by omega) (fun e => hn (.inr (.inr (.inr (by rw [hv]; exact e)))))).trans ((pk b (fun e => hn (.inr (.inl e))) (fun e => hn (.inr (.inr (.inl e))))).trans (hb.block b hb'))
  · have := ten_cells _ _ _ _ _ _ _ _ _ _ Z6
    exact ⟨this.1, this.2.1, this.2.2.1, this.2.2.2.1, this.2.2.2.2.1, this.2.2.2.2.2.1, this.2.2.2.2.2.2.1, this.2.2.2.2.2.2.2.1, this.2.2.2.2.2.2.2.2.1, this.2.2.2.2.2.2.2.2.2, Z6⟩
theorem close_apart {w : World} {base rb mi mo : Nat} {v v' : Value} {L : List Circ} {va : Option Addr} {n vc : Nat} (h : RelAt w base rb mi mo v L) (hvb : v'.ownBlock = (Value.slice va n vc).ownBlock) (hv : v = .slice va n vc) : ∀ k, RelS rb mi mo v' k → ¬ k = w.heap.size := by
  intro k hk e
  subst e
  rcases hk with e | e | e | e
  · have := lt_of_heap h.rbk; omega
  · have := lt_of_heap h.mik.choose_spec.choose_spec.1; omega
  · have := lt_of_heap h.mok.choose_spec.choose_spec.1; omega
  · rw [hvb, ← hv] at e
    have := (h.own.lt _ e).2; omega
theorem close_end {w w6 : World} {base rb mi mo j : Nat} {v v' : Value} {L : List Circ} {va : Option Addr} {vc ci co : Nat} {es fs E1 F1 : Array MapEntry} (h : RelAt w base rb mi mo v L)
    (r6 : w6.heap[rb]? = some (.cells #[.map (some mi), .map (some mo), .slice va L.length vc] 82 (0, 0))) (hm : w6.heap[mi]? = some (.map E1 ci) ∧ w6.heap[mo]? = some (.map F1 co)) (hf : Fr (RelS rb mi mo v) w w6)
    (ho : w6.ownsRow base 84 2 v' (L.eraseIdx j).length (placeCells (L.eraseIdx j))) (hvb : v'.ownBlock = (Value.slice va L.length vc).ownBlock) (hE : es.eraseIdxIfInBounds j = E1) (hF : fs.eraseIdxIfInBounds j = F1)
    (hl : Lies Circ.inV es.toList L) (hl' : Lies Circ.outV fs.toList L) (heb : ∀ e ∈ es.toList, e.born < ci) (hfb : ∀ e ∈ fs.toList, e.born < co) (hj : j < L.length) (hv : v = .slice va L.length vc) :
    RelAt (w6.setCell ⟨rb, 2, none⟩ v') base rb mi mo v' (L.eraseIdx j) ∧ Fr (RelS rb mi mo v) w (w6.setCell ⟨rb, 2, none⟩ v') := by
  subst hE hF
  have hne : v'.ownBlock ≠ some rb := fun e => by
    rw [hvb, ← hv] at e
    exact (h.rowne rb e).2.2 rfl
  refine ⟨⟨?_, ⟨_, _, (Below.heap_setCell _ _ _ _ (fun e => h.n1 e.symm)).trans hm.1, hl.erase j, born_erase heb j⟩, ⟨_, _, (Below.heap_setCell _ _ _ _ (fun e => h.n2 e.symm)).trans hm.2, hl'.erase j, born_erase hfb j⟩, own_setCell ho _ _ hne, h.h1, h.h2, h.h3, h.n1, h.n2, h.n3, ?_, h.uni.erase j⟩, hf.set _ _ (fun _ => .inl rfl)⟩
  · simp [World.setCell, Array.getElem?_modify, r6]
  · have := h.few; rw [List.length_eraseIdx, if_pos hj]; omega
set_option maxRecDepth 100000 in
set_option maxHeartbeats 4000000 in
theorem close_some (rb base mi mo : Nat) (v : Value) (L : List Circ) (w : World) (h : RelAt w base rb mi mo v L) (n : ByteArray) (i : Int) (j : Nat) (k : Circ) (hx : findC (Circ.outIs n i) L 0 = some (j, k)) :
    Calls Try.prog 20 #[.pointer (some ⟨rb, 0, none⟩), .string n, .int .i64 i] w fun e w' => e = .returned (.tuple #[k.val, .int .i64 0]) ∧ ∃ v', RelAt w' base rb mi mo v' (L.eraseIdx j) ∧ v'.ownBlock = v.ownBlock ∧ Fr (RelS rb mi mo v) w w' := by
  obtain ⟨fs, co, n0, hl', hfb⟩ := h.mok
  obtain ⟨es, ci, m0, hl, heb⟩ := h.mik
  have hmo := lt_of_heap n0
  have hmi := lt_of_heap m0
  have hrb := lt_of_heap h.rbk
  have hma : ∀ (W : World) (o : Obj), MapAt W mo fs co → MapAt (W.alloc o) mo fs co := fun _ o h => h.alloc o
  have hm0 : MapAt w mo fs co := n0
  have hlk : ∀ W : World, MapAt W mo fs co → (Instr.lookup 79 (.map (some mo)) (placeV n i) true).run Try.prog W = .ok (.tuple #[((findC (Circ.outIs n i) L 0).map fun x => x.2.kept).getD zeroKept, .bool (findC (Circ.outIs n i) L 0).isSome]) W :=
    fun W hW => run_look Circ.outV (Circ.outIs n i) n i (key_out n i) fs co mo L W hl' (fun c => ⟨_, _, rfl⟩) hW
  have hc : w.cell? ⟨rb, 1, none⟩ = some (.map (some mo)) := by simp [World.cell?, h.rbk]
  have HM := Lib.hid m0; have HN := Lib.hid n0; have HEB := Lib.hid heb; have HFB := Lib.hid hfb
  clear n0 m0 heb hfb
  unfold placeV at hlk
  rw [hx] at hlk
  simp only [Option.map_some, Option.getD_some, Option.isSome_some, Circ.kept] at hlk
  have HH := Lib.hid h; have HX := Lib.hid hx
  clear h hx
  go_enter Try.func20, Try.ntmps20
  go_wp2
  have b2 : Below w.heap.size w ((w.alloc (.cells #[.string ⟨#[]⟩, .int .i64 0, .string ⟨#[]⟩, .int .i64 0, .int .i64 0, .int .i64 0, .int .i64 0, .int .i64 0, .string ⟨#[]⟩, .string ⟨#[]⟩] 44)).alloc (.cells #[.string k.ic, .int .i64 k.ii, .string k.oc, .int .i64 k.oi, .string k.ic, .int .i64 k.ii, .string k.oc, .int .i64 k.oi, .int .i64 k.ia, .int .i64 k.oa, .int .i64 k.ie, .int .i64 k.oe, .string k.hash, .string k.sh] 88)) := ((Below.refl _ _).alloc (Nat.le_refl _) _).alloc (by simp) _
  have K2 : Hid (((w.alloc (.cells #[.string ⟨#[]⟩, .int .i64 0, .string ⟨#[]⟩, .int .i64 0, .int .i64 0, .int .i64 0, .int .i64 0, .int .i64 0, .string ⟨#[]⟩, .string ⟨#[]⟩] 44)).alloc (.cells #[.string k.ic, .int .i64 k.ii, .string k.oc, .int .i64 k.oi, .string k.ic, .int .i64 k.ii, .string k.oc, .int .i64 k.oi, .int .i64 k.ia, .int .i64 k.oa, .int .i64 k.ie, .int .i64 k.oe, .string k.hash, .string k.sh] 88)).heap[w.heap.size + 1]? = some (.cells #[.string k.ic, .int .i64 k.ii, .string k.oc, .int .i64 k.oi, .string k.ic, .int .i64 k.ii, .string k.oc, .int .i64 k.oi, .int .i64 k.ia, .int .i64 k.oa, .int .i64 k.ie, .int .i64 k.oe, .string k.hash, .string k.sh] 88 (0, 0))) := by have := heap_alloc_at (w.alloc (.cells #[.string ⟨#[]⟩, .int .i64 0, .string ⟨#[]⟩, .int .i64 0, .int .i64 0, .int .i64 0, .int .i64 0, .int .i64 0, .string ⟨#[]⟩, .string ⟨#[]⟩] 44)) (.cells #[.string k.ic, .int .i64 k.ii, .string k.oc, .int .i64 k.oi, .string k.ic, .int .i64 k.ii, .string k.oc, .int .i64 k.oi, .int .i64 k.ia, .int .i64 k.oa, .int .i64 k.ie, .int .i64 k.oe, .string k.hash, .string k.sh] 88); rw [World.size_alloc] at this; exact this
  have R2 : Hid (((w.alloc (.cells #[.string ⟨#[]⟩, .int .i64 0, .string ⟨#[]⟩, .int .i64 0, .int .i64 0, .int .i64 0, .int .i64 0, .int .i64 0, .string ⟨#[]⟩, .string ⟨#[]⟩] 44)).alloc (.cells #[.string k.ic, .int .i64 k.ii, .string k.oc, .int .i64 k.oi, .string k.ic, .int .i64 k.ii, .string k.oc, .int .i64 k.oi, .int .i64 k.ia, .int .i64 k.oa, .int .i64 k.ie, .int .i64 k.oe, .string k.hash, .string k.sh] 88)).heap[w.heap.size]? = some (.cells #[.string ⟨#[]⟩, .int .i64 0, .string ⟨#[]⟩, .int .i64 0, .int .i64 0, .int .i64 0, .int .i64 0, .int .i64 0, .string ⟨#[]⟩, .string ⟨#[]⟩] 44 (0, 0))) := (alloc_heap _ (by simp)).trans (heap_alloc_at w _)
  have z2 : w.heap.size + 2 = ((w.alloc (.cells #[.string ⟨#[]⟩, .int .i64 0, .string ⟨#[]⟩, .int .i64 0, .int .i64 0, .int .i64 0, .int .i64 0, .int .i64 0, .string ⟨#[]⟩, .string ⟨#[]⟩] 44)).alloc (.cells #[.string k.ic, .int .i64 k.ii, .string k.oc, .int .i64 k.oi, .string k.ic, .int .i64 k.ii, .string k.oc, .int .i64 k.oi, .int .i64 k.ia, .int .i64 k.oa, .int .i64 k.ie, .int .i64 k.oe, .string k.hash, .string k.sh] 88)).heap.size := by simp
  clear hlk hma hm0 hc
  generalize ((w.alloc (.cells #[.string ⟨#[]⟩, .int .i64 0, .string ⟨#[]⟩, .int .i64 0, .int .i64 0, .int .i64 0, .int .i64 0, .int .i64 0, .string ⟨#[]⟩, .string ⟨#[]⟩] 44)).alloc (.cells #[.string k.ic, .int .i64 k.ii, .string k.oc, .int .i64 k.oi, .string k.ic, .int .i64 k.ii, .string k.oc, .int .i64 k.oi, .int .i64 k.ia, .int .i64 k.oa, .int .i64 k.ie, .int .i64 k.oe, .string k.hash, .string k.sh] 88)) = w2 at b2 K2 R2 z2 ⊢
  have m2 : MapAt w2 mi es ci := MapAt.below HM.out b2
  have n2 : MapAt w2 mo fs co := MapAt.below HN.out b2
  have r2 : w2.heap[rb]? = some (.cells #[.map (some mi), .map (some mo), v] 82 (0, 0)) := (b2.block rb hrb).trans HH.out.rbk
  have c0 : w2.cell? ⟨rb, 0, none⟩ = some (.map (some mi)) := by simp [World.cell?, r2]
  have c1 : w2.cell? ⟨rb, 1, none⟩ = some (.map (some mo)) := by simp [World.cell?, r2]
  obtain ⟨kb, hkb⟩ : ∃ kb, w.heap.size + 1 = kb := ⟨_, rfl⟩
  rw [hkb] at K2 ⊢
  obtain ⟨k0, k1, k2, k3, k4, k5, k6, k7, k8, k9, ka, kb', kc, kd⟩ := kept_cells k K2.out
  have neA : kb ≠ mi := by omega
  have neB : kb ≠ mo := by omega
  have ne1 : rb ≠ mi := HH.out.n1
  have ne2 : rb ≠ mo := HH.out.n2
  have ne3 : mi ≠ mo := HH.out.n3
  have hjk := (findC_some HX.out).2.1
  rw [Nat.sub_zero] at hjk
  have HJK := Lib.hid hjk
  clear hjk
  obtain ⟨E1, hE1⟩ : ∃ E, es.eraseIdxIfInBounds j = E := ⟨_, rfl⟩
  obtain ⟨F1, hF1⟩ : ∃ E, fs.eraseIdxIfInBounds j = E := ⟨_, rfl⟩
  have hfo : findC (Circ.outIs k.oc k.oi) L 0 = some (j, k) := find_out HH.out.uni HJK.out
  have hd1 : ∀ (W : World) (ty : TypeId), MapAt W mi es ci → (Builtin.delete_ #[79, 84] ty #[.map (some mi), .agg #[.string k.ic, .int .i64 k.ii]]).run Try.prog W = .ok (.tuple #[]) (putO W mi (.map E1 ci)) := by
    intro W ty hW
    have := run_del Circ.inV (Circ.inIs k.ic k.ii) k.ic k.ii (key_in k.ic k.ii) es ci mi L W hl (fun c => ⟨_, _, rfl⟩) hW ty j k (find_in HH.out.uni HJK.out)
    rw [hE1] at this
    exact this
  have hd2 : ∀ (W : World) (ty : TypeId), MapAt W mo fs co → (Builtin.delete_ #[79, 84] ty #[.map (some mo), .agg #[.string k.oc, .int .i64 k.oi]]).run Try.prog W = .ok (.tuple #[]) (putO W mo (.map F1 co)) := by
    intro W ty hW
    have := run_del Circ.outV (Circ.outIs k.oc k.oi) k.oc k.oi (key_out k.oc k.oi) fs co mo L W hl' (fun c => ⟨_, _, rfl⟩) hW ty j k hfo
    rw [hF1] at this
    exact this
  have q1 : ∀ (W : World) (o : Obj) (e : Array MapEntry) (n : Nat), MapAt (putO W mi o) mo e n = MapAt W mo e n := fun W o e n => by unfold MapAt; rw [putO_other ne3.symm]
  have q6 : ∀ (W : World) (e : Array MapEntry) (n b : Nat), MapAt W.drew b e n = MapAt W b e n := fun _ _ _ _ => rfl
  have hcl : ∀ (W : World) (b k off : Nat) (o : Obj), k ≠ b → (putO W b o).cell? ⟨k, off, none⟩ = W.cell? ⟨k, off, none⟩ := fun W b k off o h => World.cell?_of_block (putO_other h)
  have hcl1 := fun (W : World) off o => hcl W mi rb off o ne1
  have hcl3 := fun (W : World) off o => hcl W mi kb off o neA
  clear hcl
  have HE1 := Lib.hid hE1; have HF1 := Lib.hid hF1; have HFO := Lib.hid hfo; have B2 := Lib.hid b2; have HKB := Lib.hid hkb; have Z2 := Lib.hid z2; have R2' := Lib.hid r2
  clear hE1 hF1 hfo b2 hkb z2 r2
  go_region
  go_wp2
  go_region
  go_wp2
  clear hd1 hd2 q1 q6 hcl1 hcl3 c0 c1 k0 k1 k2 k3 k4 k5 k6 k7 k8 k9 ka kb' kc kd
  have zmi : mi < w2.heap.size := lt_of_heap m2
  have zmo : mo < w2.heap.size := lt_of_heap n2
  have P4 := Lib.hid (put2 w2 mi mo (.map E1 ci) (.map F1 co) zmi zmo ne3)
  generalize putO (putO w2.drew mi (.map E1 ci)).drew mo (.map F1 co) = w4 at P4 ⊢
  have r4 : w4.heap[rb]? = some (.cells #[.map (some mi), .map (some mo), v] 82 (0, 0)) := (P4.out.2.2.2.2 rb ne1 ne2).trans R2'.out
  have c4 : w4.cell? ⟨rb, 2, none⟩ = some v := by simp [World.cell?, r4]
  have K4 := Lib.hid ((P4.out.2.2.2.2 kb neA neB).trans K2.out)
  obtain ⟨k0, k1, k2, k3, k4, k5, k6, k7, k8, k9, ka, kb', kc, kd⟩ := kept_cells k K4.out
  have hlz : j < L.length := (List.getElem?_eq_some_iff.1 HJK.out).1
  have hj256 : (j : Int) < 256 := by have := HH.out.few; omega
  have O4 : Hid (w4.ownsRow base 84 2 v L.length (placeCells L)) := own6 HH.out B2.out P4.out.2.2.2.2 P4.out.2.1
  have R4 := Lib.hid r4; clear r4
  obtain ⟨va, vc, hv⟩ := own_slice O4.out
  have HV := Lib.hid hv
  rw [hv] at c4
  clear hv
  have HK := Lib.hid (idx_any base j v L)
  have HD := Lib.hid (del_any base j v L)
  rw [HV.out] at HK HD
  go_region_with ((go_at_call 37; refine Calls.mono (HK.out _ (by rw [← HV.out]; exact O4.out.drew) HH.out.few k.oc k.oi k HFO.out) ?_; rintro e w5 ⟨rfl, hb5⟩; have HB5 := Lib.hid hb5; have c5 : w5.cell? ⟨rb, 2, none⟩ = some (.slice va L.length vc) := (cell_later hb5 c4); clear hb5))
  all_goals
    have hown5 : w5.ownsRow base 84 2 (.slice va L.length vc) L.length (placeCells L) := by
      have h := HB5.out
      rw [← HV.out]
      exact ownsRow_blocks O4.out (fun g hg => h.block g (O4.out.lt g hg).2) h.size
    have HO5 := Lib.hid hown5
    clear hown5
    go_wp2_with (go_at_call 38; (with_reducible refine Calls.mono (HD.out _ HO5.out HH.out.few hlz) ?_); rintro e w6 ⟨v', rfl, hvb, hown6, hfr6⟩; obtain ⟨va', vc', rfl⟩ := own_slice hown6; have HF6 := Lib.hid hfr6; have HO6 := Lib.hid hown6; have HVB := Lib.hid hvb; obtain ⟨x1, x2, x3, x4, x5⟩ := close_mid HH.out B2.out P4.out HV.out HKB.out Z2.out HB5.out hfr6 R4.out K4.out R2.out; have X1 := Lib.hid x1; have X2 := Lib.hid x2; have X3 := Lib.hid x3; obtain ⟨x4a, x4b, x4c, x4d, x4e, x4f, x4g, x4h, x4i, x4j⟩ := x4; obtain ⟨g0, g1, g2, g3, g4, g5, g6, g7, g8, g9, gh⟩ := x5; have gf : ∀ o, w6.frozen? ⟨w.heap.size, o, none⟩ = false := (fun o => by simp [World.frozen?, gh]); have GH := Lib.hid gh; clear gh; have nn1 : kb ≠ rb := (by have := HKB.out; omega); have nn2 : rb ≠ kb := (fun e => nn1 e.symm); have nn3 : w.heap.size ≠ rb := (by omega); have nn4 : rb ≠ w.heap.size := (by omega); have nn5 : kb ≠ w.heap.size := (by have := HKB.out; omega); have nn6 : w.heap.size ≠ kb := (fun e => nn5 e.symm); have y1 : w6.cell? ⟨rb, 2, none⟩ = some (.slice va L.length vc) := (by simp [World.cell?, x1]); have y2 : w6.frozen? ⟨rb, 2, none⟩ = false := (by simp [World.frozen?, x1]); clear hvb hown6 hfr6 x1 x2 x3)
    obtain ⟨q1, q2⟩ := close_end HH.out X1.out X2.out X3.out HO6.out HVB.out HE1.out HF1.out hl hl' HEB.out HFB.out hlz HV.out
    exact bodyPost_ret (v := .tuple #[.agg #[.string k.ic, .int .i64 k.ii, .string k.oc, .int .i64 k.oi, .int .i64 k.ia, .int .i64 k.oa, .int .i64 k.ie, .int .i64 k.oe, .string k.hash, .string k.sh], .int .i64 0]) (by simp [results, Try.results20, go_sem, g0, g1, g2, g3, g4, g5, g6, g7, g8, g9]) rfl ⟨rfl, _, q1.fr (S := fun k => k = w.heap.size) (by (repeat' (first | (with_reducible exact Fr.refl _ _) | (with_reducible refine Fr.set ?_ _ _ (fun _ => rfl))))) (close_apart HH.out HVB.out HV.out), by rw [HV.out]; exact HVB.out, q2.trans' (T := fun k => k = w.heap.size) (by (repeat' (first | (with_reducible exact Fr.refl _ _) | (with_reducible refine Fr.set ?_ _ _ (fun _ => rfl))))) (fun i hi e => by omega)⟩
end Go.Proofs.Ytjdbnaedlljfhaa
