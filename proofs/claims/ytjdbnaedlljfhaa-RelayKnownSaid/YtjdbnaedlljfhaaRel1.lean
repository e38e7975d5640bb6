/- The relay in memory; what tells of it. -/
import Derived.Test.YtjdbnaedlljfhaaRMap
import Derived.Outline
namespace Go.Proofs.Ytjdbnaedlljfhaa
open Go.RowKit

/-- of what was there, nothing has turned but the blocks of S -/
structure Fr (S : Nat → Prop) (w w' : World) : Prop where
  os : w'.os = w.os
  tape : w'.tape = w.tape
  output : w'.output = w.output
  size : w.heap.size ≤ w'.heap.size
  block : ∀ k, k < w.heap.size → ¬ S k → w'.heap[k]? = w.heap[k]?
theorem Fr.refl (S : Nat → Prop) (w : World) : Fr S w w := ⟨rfl, rfl, rfl, Nat.le_refl _, fun _ _ _ => rfl⟩
theorem Fr.trans {S : Nat → Prop} {a b c : World} (h : Fr S a b) (k : Fr S b c) : Fr S a c :=
  ⟨k.os.trans h.os, k.tape.trans h.tape, k.output.trans h.output, Nat.le_trans h.size k.size, fun i hi hr => (k.block i (Nat.lt_of_lt_of_le hi h.size) hr).trans (h.block i hi hr)⟩
theorem Fr.trans' {S T : Nat → Prop} {a b c : World} (h : Fr S a b) (k : Fr T b c) (hst : ∀ i, i < a.heap.size → T i → S i) : Fr S a c :=
  ⟨k.os.trans h.os, k.tape.trans h.tape, k.output.trans h.output, Nat.le_trans h.size k.size, fun i hi hr => (k.block i (Nat.lt_of_lt_of_le hi h.size) (fun ht => hr (hst i hi ht))).trans (h.block i hi hr)⟩
theorem Fr.weak {S T : Nat → Prop} {a b : World} (h : Fr S a b) (hst : ∀ k, k < a.heap.size → S k → T k) : Fr T a b := ⟨h.os, h.tape, h.output, h.size, fun k hk hn => h.block k hk (fun s => hn (hst k hk s))⟩
theorem Fr.below {S : Nat → Prop} {a b : World} (h : Below a.heap.size a b) : Fr S a b := ⟨h.os, h.tape, h.output, h.size, fun k hk _ => h.block k hk⟩
theorem Fr.grown {S : Nat → Prop} {a b : World} {row : Option Nat} (h : a.grownBy b row) (hs : ∀ g, row = some g → S g) : Fr S a b := ⟨h.os, h.tape, h.output, h.size, fun k hk hn => h.block k hk (fun e => hn (hs _ e.symm))⟩
theorem Fr.set {S : Nat → Prop} {a b : World} (h : Fr S a b) (p : Addr) (v : Value) (hs : p.block < a.heap.size → S p.block) : Fr S a (b.setCell p v) :=
  ⟨h.os, h.tape, h.output, by simpa [World.setCell] using h.size, fun k hk hr => (Below.heap_setCell _ _ _ _ (fun e => hr (by rw [e]; exact hs (by rw [← e]; exact hk)))).trans (h.block k hk hr)⟩
theorem Fr.drewN {S : Nat → Prop} {a b : World} (h : Fr S a b) (n : Nat) : Fr S a (b.drewN n) := ⟨h.os, h.tape, h.output, h.size, h.block⟩
theorem Fr.drew {S : Nat → Prop} {a b : World} (h : Fr S a b) : Fr S a b.drew := ⟨h.os, h.tape, h.output, h.size, h.block⟩
theorem Fr.alloc {S : Nat → Prop} {a b : World} (h : Fr S a b) (o : Obj) : Fr S a (b.alloc o) := h.trans' (T := fun _ => False) (Fr.below ((Below.refl _ _).alloc (Nat.le_refl _) o)) (fun _ _ h => h.elim)
theorem Fr.toBelow {a b : World} {S : Nat → Prop} {B : Nat} (h : Fr S a b) (hs : ∀ k, S k → B ≤ k) (hB : B ≤ a.heap.size) : Below B a b := ⟨h.os, h.tape, h.output, h.size, fun k hk => h.block k (by omega) (fun x => by have := hs k x; omega)⟩

/-- a map's block turned -/
def putO (w : World) (b : Nat) (o : Obj) : World := { w with heap := w.heap.setIfInBounds b o }
theorem putO_same {w : World} {b : Nat} {o o' : Obj} (h : w.heap[b]? = some o') : (putO w b o).heap[b]? = some o := (MapKept.heap_set h).1
theorem putO_other {w : World} {b k : Nat} {o : Obj} (h : k ≠ b) : (putO w b o).heap[k]? = w.heap[k]? := by
  simp only [putO]; rw [Array.getElem?_setIfInBounds]; rw [if_neg (fun e => h e.symm)]
@[simp] theorem putO_size (w : World) (b : Nat) (o : Obj) : (putO w b o).heap.size = w.heap.size := by simp [putO]
theorem Fr.putO {S : Nat → Prop} {a b : World} (h : Fr S a b) (k : Nat) (o : Obj) (hs : S k) : Fr S a (putO b k o) :=
  ⟨h.os, h.tape, h.output, by simpa using h.size, fun i hi hr => (putO_other (fun e => hr (by rw [e]; exact hs))).trans (h.block i hi hr)⟩

def placeCells (L : List Circ) : List Value := L.flatMap fun c => [.string c.oc, .int .i64 c.oi]
/-- no two share a place -/
def Uniq (L : List Circ) : Prop := ∀ (i j : Nat) (c d : Circ), L[i]? = some c → L[j]? = some d → (c.inIs d.ic d.ii = true ∨ c.outIs d.oc d.oi = true) → i = j
/-- a relay in blocks rb (itself), mi, mo (its maps), and its row's -/
structure RelAt (w : World) (base rb mi mo : Nat) (v : Value) (L : List Circ) : Prop where
  rbk : w.heap[rb]? = some (.cells #[.map (some mi), .map (some mo), v] 82 (0, 0))
  mik : ∃ es c, w.heap[mi]? = some (.map es c) ∧ Lies Circ.inV es.toList L ∧ ∀ e ∈ es.toList, e.born < c
  mok : ∃ es c, w.heap[mo]? = some (.map es c) ∧ Lies Circ.outV es.toList L ∧ ∀ e ∈ es.toList, e.born < c
  own : w.ownsRow base 84 2 v L.length (placeCells L)
  h1 : base ≤ rb
  h2 : base ≤ mi
  h3 : base ≤ mo
  n1 : rb ≠ mi
  n2 : rb ≠ mo
  n3 : mi ≠ mo
  few : L.length ≤ 256
  uni : Uniq L
def RelS (rb mi mo : Nat) (v : Value) (k : Nat) : Prop := k = rb ∨ k = mi ∨ k = mo ∨ v.ownBlock = some k
theorem lt_of_heap {w : World} {b : Nat} {o : Obj} (h : w.heap[b]? = some o) : b < w.heap.size := (Array.getElem?_eq_some_iff.1 h).1
theorem ownsRow_blocks {w w' : World} {base E size n : Nat} {v : Value} {xs : List Value} (h : w.ownsRow base E size v n xs) (hk : ∀ g, v.ownBlock = some g → w'.heap[g]? = w.heap[g]?) (hz : w.heap.size ≤ w'.heap.size) : w'.ownsRow base E size v n xs := by
  refine ⟨h.1, ?_⟩
  rcases h.2 with h0 | ⟨g, cap, cur, hv, hg, hh, hrest⟩
  · exact .inl h0
  · exact .inr ⟨g, cap, cur, hv, hg, by rw [hk g (by rw [hv]; rfl)]; exact hh, hrest⟩
theorem RelAt.fr {w w' : World} {base rb mi mo : Nat} {v : Value} {L : List Circ} {S : Nat → Prop} (h : RelAt w base rb mi mo v L) (hf : Fr S w w') (hs : ∀ k, RelS rb mi mo v k → ¬ S k) : RelAt w' base rb mi mo v L := by
  obtain ⟨es, c, e1, e2, e3⟩ := h.mik
  obtain ⟨fs, d, f1, f2, f3⟩ := h.mok
  exact { h with
    rbk := (hf.block rb (lt_of_heap h.rbk) (hs _ (.inl rfl))).trans h.rbk
    mik := ⟨es, c, (hf.block mi (lt_of_heap e1) (hs _ (.inr (.inl rfl)))).trans e1, e2, e3⟩
    mok := ⟨fs, d, (hf.block mo (lt_of_heap f1) (hs _ (.inr (.inr (.inl rfl))))).trans f1, f2, f3⟩
    own := ownsRow_blocks h.own (fun g hg => hf.block g (h.own.lt g hg).2 (hs _ (.inr (.inr (.inr hg))))) hf.size }
theorem RelAt.below {w w' : World} {base rb mi mo : Nat} {v : Value} {L : List Circ} (h : RelAt w base rb mi mo v L) (hb : Below w.heap.size w w') : RelAt w' base rb mi mo v L :=
  h.fr (Fr.below (S := fun _ => False) hb) (fun _ _ x => x)

theorem alloc3_at (w : World) (a b c : Obj) : (((w.alloc a).alloc b).alloc c).heap[w.heap.size]? = some a ∧ (((w.alloc a).alloc b).alloc c).heap[w.heap.size + 1]? = some b ∧ (((w.alloc a).alloc b).alloc c).heap[w.heap.size + 2]? = some c := by
  refine ⟨?_, ?_, ?_⟩
  · show (((w.heap.push a).push b).push c)[w.heap.size]? = _
    rw [Array.getElem?_push, if_neg (by simp; omega), Array.getElem?_push, if_neg (by simp), Array.getElem?_push, if_pos rfl]
  · show (((w.heap.push a).push b).push c)[w.heap.size + 1]? = _
    rw [Array.getElem?_push, if_neg (by simp), Array.getElem?_push, if_pos (by simp)]
  · show (((w.heap.push a).push b).push c)[w.heap.size + 2]? = _
    rw [Array.getElem?_push, if_pos (by simp)]
theorem new_any (w : World) : Calls Try.prog 14 #[] w fun e w' => ∃ rb mi mo, e = .returned (.pointer (some ⟨rb, 0, none⟩)) ∧ RelAt w' w.heap.size rb mi mo (.slice none 0 0) [] ∧ Below w.heap.size w w' := by
  have hmm := @run_makeMap Try.prog
  go_enter Try.func14, Try.ntmps14
  go_wp2
  go_ret
  obtain ⟨h0, h1, h2⟩ := alloc3_at w (.map #[] 0) (.map #[] 0) (.cells #[Value.map (some w.heap.size), Value.map (some (w.heap.size + 1)), Value.slice none 0 0] 82)
  refine ⟨w.heap.size + 1 + 1, w.heap.size, w.heap.size + 1, rfl, ⟨h2, ⟨#[], 0, h0, rfl, by simp⟩, ⟨#[], 0, h1, rfl, by simp⟩, World.ownsRow_nil _ _ _ _, by omega, by omega, by omega, by omega, by omega, by omega, by simp, fun i j c d h => by simp at h⟩, (((Below.refl _ _).alloc (Nat.le_refl _) _).alloc (by simp) _).alloc (by simp; omega) _⟩
theorem own_slice {w : World} {base E size n : Nat} {v : Value} {xs : List Value} (h : w.ownsRow base E size v n xs) : ∃ a c, v = .slice a n c := by
  rcases h.2 with ⟨h, h'⟩ | ⟨g, cap, cur, h, _⟩
  · exact ⟨none, 0, by rw [h, h']⟩
  · exact ⟨_, _, h⟩
theorem count_any (rb : Nat) (base mi mo : Nat) (v : Value) (L : List Circ) (w : World) (h : RelAt w base rb mi mo v L) : Calls Try.prog 25 #[.pointer (some ⟨rb, 0, none⟩)] w fun e w' => e = .returned (.int .i64 L.length) ∧ w = w' := by
  obtain ⟨a, c, rfl⟩ := own_slice h.own
  have hc : w.cell? ⟨rb, 2, none⟩ = some (.slice a L.length c) := by simp [World.cell?, h.rbk]
  have hl := h.few
  go_enter Try.func25, Try.ntmps25
  go_wp2
  go_ret
  exact ⟨rfl, rfl⟩
theorem alloc_heap {w : World} {b : Nat} (o : Obj) (h : b < w.heap.size) : (w.alloc o).heap[b]? = w.heap[b]? := Below.heap_alloc w o b h
/-- block b is that map -/
def MapAt (w : World) (b : Nat) (es : Array MapEntry) (c : Nat) : Prop := w.heap[b]? = some (.map es c)
theorem MapAt.alloc {w : World} {b : Nat} {es : Array MapEntry} {c : Nat} (h : MapAt w b es c) (o : Obj) : MapAt (w.alloc o) b es c := (alloc_heap o (lt_of_heap h)).trans h
theorem MapAt.drew {w : World} {b : Nat} {es : Array MapEntry} {c : Nat} (h : MapAt w b es c) : MapAt w.drew b es c := h
theorem MapAt.drewN {w : World} {b : Nat} {es : Array MapEntry} {c : Nat} (h : MapAt w b es c) (n : Nat) : MapAt (w.drewN n) b es c := h
theorem MapAt.set {w : World} {b : Nat} {es : Array MapEntry} {c : Nat} (h : MapAt w b es c) (p : Addr) (v : Value) (hp : ∃ cs t f, w.heap[p.block]? = some (.cells cs t f)) : MapAt (w.setCell p v) b es c := by
  obtain ⟨cs, t, f, hc⟩ := hp
  refine (Below.heap_setCell w p v b (fun e => ?_)).trans h
  subst e
  rw [MapAt, hc] at h
  cases h
def TellPost (x : Option (Nat × Circ)) (w : World) (e : Ending) (w' : World) : Prop := e = .returned (.tuple #[(x.map fun y => y.2.val).getD Circ.zero.val, .bool x.isSome]) ∧ Below w.heap.size w w'
set_option maxRecDepth 100000 in
set_option maxHeartbeats 1000000 in
theorem in_any (rb : Nat) (base mi mo : Nat) (v : Value) (L : List Circ) (w : World) (h : RelAt w base rb mi mo v L) (n : ByteArray) (i : Int) : Calls Try.prog 15 #[.pointer (some ⟨rb, 0, none⟩), .string n, .int .i64 i] w (TellPost (findC (Circ.inIs n i) L 0) w) := by
  obtain ⟨es, c, hb, hl, _⟩ := h.mik
  have hmi := lt_of_heap hb
  have hrb := lt_of_heap h.rbk
  have hma : ∀ (W : World) (o : Obj), MapAt W mi es c → MapAt (W.alloc o) mi es c := fun _ o h => h.alloc o
  have hm0 : MapAt w mi es c := hb
  have hlk : ∀ W : World, MapAt W mi es c → (Instr.lookup 79 (.map (some mi)) (placeV n i) true).run Try.prog W = .ok (.tuple #[((findC (Circ.inIs n i) L 0).map fun x => x.2.kept).getD zeroKept, .bool (findC (Circ.inIs n i) L 0).isSome]) W :=
    fun W hW => run_look Circ.inV (Circ.inIs n i) n i (key_in n i) es c mi L W hl (fun c => ⟨_, _, rfl⟩) hW
  have hc : w.cell? ⟨rb, 0, none⟩ = some (.map (some mi)) := by simp [World.cell?, h.rbk]
  clear hb
  unfold placeV at hlk
  generalize findC (Circ.inIs n i) L 0 = x at hlk ⊢
  cases x with
  | none =>
    simp only [Option.map_none, Option.getD_none, Option.isSome_none, zeroKept, Circ.kept, Circ.zero] at hlk
    clear h
    go_enter Try.func15, Try.ntmps15
    go_wp2
    exact bodyPost_ret (v := .tuple #[.agg #[.string ⟨#[]⟩, .int .i64 0, .string ⟨#[]⟩, .int .i64 0, .int .i64 0, .int .i64 0, .int .i64 0, .int .i64 0, .string ⟨#[]⟩, .string ⟨#[]⟩], .bool false]) (by simp [results, Try.results15, go_sem]) rfl ⟨rfl, (by (repeat' (first | (with_reducible exact Below.refl _ _) | (with_reducible refine Below.alloc ?_ ?_ _) | (with_reducible refine Below.drew ?_) | (with_reducible refine Below.setCell ?_ ?_ _) | (with_reducible refine below_drewN ?_ _) | (refine Below.trans ?_ (Below.mono (by assumption) ?_)) | go_size)))⟩
  | some y =>
    obtain ⟨j, k⟩ := y
    simp only [Option.map_some, Option.getD_some, Option.isSome_some, Circ.kept] at hlk
    clear h
    go_enter Try.func15, Try.ntmps15
    go_wp2
    exact bodyPost_ret (v := .tuple #[.agg #[.string k.ic, .int .i64 k.ii, .string k.oc, .int .i64 k.oi, .int .i64 k.ia, .int .i64 k.oa, .int .i64 k.ie, .int .i64 k.oe, .string k.hash, .string k.sh], .bool true]) (by simp [results, Try.results15, go_sem]) rfl ⟨rfl, (by (repeat' (first | (with_reducible exact Below.refl _ _) | (with_reducible refine Below.alloc ?_ ?_ _) | (with_reducible refine Below.drew ?_) | (with_reducible refine Below.setCell ?_ ?_ _) | (with_reducible refine below_drewN ?_ _) | (refine Below.trans ?_ (Below.mono (by assumption) ?_)) | go_size)))⟩
set_option maxRecDepth 100000 in
set_option maxHeartbeats 1000000 in
theorem out_any (rb : Nat) (base mi mo : Nat) (v : Value) (L : List Circ) (w : World) (h : RelAt w base rb mi mo v L) (n : ByteArray) (i : Int) : Calls Try.prog 18 #[.pointer (some ⟨rb, 0, none⟩), .string n, .int .i64 i] w (TellPost (findC (Circ.outIs n i) L 0) w) := by
  obtain ⟨es, c, hb, hl, _⟩ := h.mok
  have hmo := lt_of_heap hb
  have hrb := lt_of_heap h.rbk
  have hma : ∀ (W : World) (o : Obj), MapAt W mo es c → MapAt (W.alloc o) mo es c := fun _ o h => h.alloc o
  have hm0 : MapAt w mo es c := hb
  have hlk : ∀ W : World, MapAt W mo es c → (Instr.lookup 79 (.map (some mo)) (placeV n i) true).run Try.prog W = .ok (.tuple #[((findC (Circ.outIs n i) L 0).map fun x => x.2.kept).getD zeroKept, .bool (findC (Circ.outIs n i) L 0).isSome]) W :=
    fun W hW => run_look Circ.outV (Circ.outIs n i) n i (key_out n i) es c mo L W hl (fun c => ⟨_, _, rfl⟩) hW
  have hc : w.cell? ⟨rb, 1, none⟩ = some (.map (some mo)) := by simp [World.cell?, h.rbk]
  clear hb
  unfold placeV at hlk
  generalize findC (Circ.outIs n i) L 0 = x at hlk ⊢
  cases x with
  | none =>
    simp only [Option.map_none, Option.getD_none, Option.isSome_none, zeroKept, Circ.kept, Circ.zero] at hlk
    clear h
    go_enter Try.func18, Try.ntmps18
    go_wp2
    exact bodyPost_ret (v := .tuple #[.agg #[.string ⟨#[]⟩, .int .i64 0, .string ⟨#[]⟩, .int .i64 0, .int .i64 0, .int .i64 0, .int .i64 0, .int .i64 0, .string ⟨#[]⟩, .string ⟨#[]⟩], .bool false]) (by simp [results, Try.results18, go_sem]) rfl ⟨rfl, (by (repeat' (first | (with_reducible exact Below.refl _ _) | (with_reducible refine Below.alloc ?_ ?_ _) | (with_reducible refine Below.drew ?_) | (with_reducible refine Below.setCell ?_ ?_ _) | (with_reducible refine below_drewN ?_ _) | (refine Below.trans ?_ (Below.mono (by assumption) ?_)) | go_size)))⟩
  | some y =>
    obtain ⟨j, k⟩ := y
    simp only [Option.map_some, Option.getD_some, Option.isSome_some, Circ.kept] at hlk
    clear h
    go_enter Try.func18, Try.ntmps18
    go_wp2
    exact bodyPost_ret (v := .tuple #[.agg #[.string k.ic, .int .i64 k.ii, .string k.oc, .int .i64 k.oi, .int .i64 k.ia, .int .i64 k.oa, .int .i64 k.ie, .int .i64 k.oe, .string k.hash, .string k.sh], .bool true]) (by simp [results, Try.results18, go_sem]) rfl ⟨rfl, (by (repeat' (first | (with_reducible exact Below.refl _ _) | (with_reducible refine Below.alloc ?_ ?_ _) | (with_reducible refine Below.drew ?_) | (with_reducible refine Below.setCell ?_ ?_ _) | (with_reducible refine below_drewN ?_ _) | (refine Below.trans ?_ (Below.mono (by assumption) ?_)) | go_size)))⟩
end Go.Proofs.Ytjdbnaedlljfhaa
