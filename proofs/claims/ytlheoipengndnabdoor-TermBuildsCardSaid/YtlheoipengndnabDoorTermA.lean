import Derived.Test.YtlheoipengndnabDoorNumC
import Derived.Test.YtlheoipengndnabDoorParse
namespace Go.Proofs.YtlheoipengndnabDoor
open Go.RowKit

/-- of what was there, nothing has turned but the blocks of S -/
structure Fr (S : Nat → Prop) (w w' : World) : Prop where
  os : w'.os = w.os
  tape : w'.tape = w.tape
  output : w'.output = w.output
  size : w.heap.size ≤ w'.heap.size
  block : ∀ k, k < w.heap.size → ¬ S k → w'.heap[k]? = w.heap[k]?
theorem Fr.refl (S : Nat → Prop) (w : World) : Fr S w w := ⟨rfl, rfl, rfl, Nat.le_refl _, fun _ _ _ => rfl⟩
theorem Fr.trans {S : Nat → Prop} {a b c : World} (h : Fr S a b) (k : Fr S b c) : Fr S a c :=
  ⟨k.os.trans h.os, k.tape.trans h.tape, k.output.trans h.output, Nat.le_trans h.size k.size, fun i hi hr => (k.block i (Nat.lt_of_lt_of_le hi h.size) hr).trans (h.block i hi hr)⟩
theorem Fr.weak {S T : Nat → Prop} {a b : World} (h : Fr S a b) (hst : ∀ k, k < a.heap.size → S k → T k) : Fr T a b := ⟨h.os, h.tape, h.output, h.size, fun k hk hn => h.block k hk (fun s => hn (hst k hk s))⟩
theorem Fr.below {S : Nat → Prop} {a b : World} (h : Below a.heap.size a b) : Fr S a b := ⟨h.os, h.tape, h.output, h.size, fun k hk _ => h.block k hk⟩
theorem Fr.grown {S : Nat → Prop} {a b : World} {rb : Nat} (h : a.grownBy b (some rb)) (hs : S rb) : Fr S a b := ⟨h.os, h.tape, h.output, h.size, fun k hk hn => h.block k hk (fun e => by cases e; exact hn hs)⟩
theorem Fr.set {S : Nat → Prop} {a b : World} (h : Fr S a b) (rb o : Nat) (v : Value) (hs : S rb) : Fr S a (b.setCell ⟨rb, o, none⟩ v) :=
  h.trans ⟨rfl, rfl, rfl, by simp [World.setCell], fun k _ hr => Below.heap_setCell _ _ _ _ (fun e => hr (by rw [e]; exact hs))⟩
theorem Fr.drewN {S : Nat → Prop} {a b : World} (h : Fr S a b) (n : Nat) : Fr S a (b.drewN n) := h.trans (Fr.below (drewN_same b n).1)
theorem Fr.alloc {S : Nat → Prop} {a b : World} (h : Fr S a b) (o : Obj) : Fr S a (b.alloc o) := h.trans (Fr.below ((Below.refl _ _).alloc (Nat.le_refl _) o))
theorem Fr.toBelow {a b : World} (h : Fr (fun _ => False) a b) : Below a.heap.size a b := ⟨h.os, h.tape, h.output, h.size, fun k hk => h.block k hk (fun x => x)⟩
theorem Rd.fr {S : Nat → Prop} {rb : Nat} {s : ByteArray} {z : Int} {w w' : World} (h : Rd rb s z w) (hb : Fr S w w') (hs : ¬ S rb) : Rd rb s z w' := by
  rw [Rd, hb.block rb h.lt hs]; exact h
theorem LibOk.fr {S : Nat → Prop} {w w' : World} (h : LibOk w) (hb : Fr S w w') (h4 : ¬ S 4) (h5 : ¬ S 5) : LibOk w' := fun g hg => by
  obtain ⟨ev, h1, h2⟩ := h g hg
  refine ⟨ev, ?_, h2⟩
  rw [World.cell?_of_block (hb.block g (World.block_lt_of_cell? w ⟨g, 0, none⟩ h1) (by rcases hg with rfl | rfl <;> assumption))]
  exact h1

/-- what is being read of a term lies in block xb -/
def Xs (xb : Nat) (op n : Int) (t : ByteArray) (kv : Value) (d : Int) (w : World) : Prop := w.heap[xb]? = some (.cells #[.int .u8 op, .int .i64 n, .string t, kv, .int .i64 d] 38 (0, 0))
theorem Xs.lt {xb : Nat} {op n : Int} {t : ByteArray} {kv : Value} {d : Int} {w : World} (h : Xs xb op n t kv d w) : xb < w.heap.size := by
  rcases Nat.lt_or_ge xb w.heap.size with g | g
  · exact g
  · rw [Xs, Array.getElem?_eq_none g] at h; cases h
theorem Xs.fr {S : Nat → Prop} {xb : Nat} {op n : Int} {t : ByteArray} {kv : Value} {d : Int} {w w' : World} (h : Xs xb op n t kv d w) (hb : Fr S w w') (hs : ¬ S xb) : Xs xb op n t kv d w' := by
  rw [Xs, hb.block xb h.lt hs]; exact h
theorem Xs.f {xb : Nat} {op n : Int} {t : ByteArray} {kv : Value} {d : Int} {w : World} (h : Xs xb op n t kv d w) (o : Nat) : w.frozen? ⟨xb, o, none⟩ = false := by simp [World.frozen?, show w.heap[xb]? = _ from h]
theorem Xs.c {xb : Nat} {op n : Int} {t : ByteArray} {kv : Value} {d : Int} {w : World} (h : Xs xb op n t kv d w) :
    w.cell? ⟨xb, 0, none⟩ = some (.int .u8 op) ∧ w.cell? ⟨xb, 1, none⟩ = some (.int .i64 n) ∧ w.cell? ⟨xb, 2, none⟩ = some (.string t) ∧ w.cell? ⟨xb, 3, none⟩ = some kv ∧ w.cell? ⟨xb, 4, none⟩ = some (.int .i64 d) := by
  simp [World.cell?, show w.heap[xb]? = _ from h]
theorem Xs.setN {xb : Nat} {op n : Int} {t : ByteArray} {kv : Value} {d : Int} {w : World} (h : Xs xb op n t kv d w) (m : Int) : Xs xb op m t kv d (w.setCell ⟨xb, 1, none⟩ (.int .i64 m)) := by
  rw [Xs] at h ⊢; simp [World.setCell, Array.getElem?_modify, h]
theorem Xs.setT {xb : Nat} {op n : Int} {t : ByteArray} {kv : Value} {d : Int} {w : World} (h : Xs xb op n t kv d w) (m : ByteArray) : Xs xb op n m kv d (w.setCell ⟨xb, 2, none⟩ (.string m)) := by
  rw [Xs] at h ⊢; simp [World.setCell, Array.getElem?_modify, h]
theorem Xs.setK {xb : Nat} {op n : Int} {t : ByteArray} {kv : Value} {d : Int} {w : World} (h : Xs xb op n t kv d w) (m : Value) : Xs xb op n t m d (w.setCell ⟨xb, 3, none⟩ m) := by
  rw [Xs] at h ⊢; simp [World.setCell, Array.getElem?_modify, h]
theorem Xs.setD {xb : Nat} {op n : Int} {t : ByteArray} {kv : Value} {d : Int} {w : World} (h : Xs xb op n t kv d w) (m : Int) : Xs xb op n t kv m (w.setCell ⟨xb, 4, none⟩ (.int .i64 m)) := by
  rw [Xs] at h ⊢; simp [World.setCell, Array.getElem?_modify, h]
theorem Rd.setX {rb : Nat} {s : ByteArray} {z : Int} {w : World} (h : Rd rb s z w) {xb : Nat} (hx : xb ≠ rb) (o : Nat) (v : Value) : Rd rb s z (w.setCell ⟨xb, o, none⟩ v) := by
  rw [Rd, Below.heap_setCell _ _ _ _ (fun e => hx (by simpa using e.symm))]; exact h
theorem Xs.setR {xb : Nat} {op n : Int} {t : ByteArray} {kv : Value} {d : Int} {w : World} (h : Xs xb op n t kv d w) {rb : Nat} (hx : xb ≠ rb) (o : Nat) (v : Value) : Xs xb op n t kv d (w.setCell ⟨rb, o, none⟩ v) := by
  rw [Xs, Below.heap_setCell _ _ _ _ (fun e => hx (by simpa using e))]; exact h

def Two (rb xb : Nat) (k : Nat) : Prop := k = rb ∨ k = xb
/-- it was refused: the reader and what was being read hold something -/
def FailPost (rb xb : Nat) (s : ByteArray) (op : Int) (w : World) (e : Ending) (w' : World) : Prop :=
  e = .returned (.bool false) ∧ Fr (Two rb xb) w w' ∧ ∃ (z n d : Int) (t : ByteArray) (kv : Value), Rd rb s z w' ∧ Xs xb op n t kv d w'
def NamePost (rb xb : Nat) (s : ByteArray) (op : Int) (n : Nat) (a : Nat) (t : ByteArray) (kv : Value) (d : Int) (w : World) (e : Ending) (w' : World) : Prop :=
  e = .returned (.bool true) ∧ Fr (Two rb xb) w w' ∧ Rd rb s a w' ∧ Xs xb op n t kv d w'

set_option maxRecDepth 100000 in
set_option maxHeartbeats 1000000 in
theorem name_no (rb xb at_ : Nat) (s : ByteArray) (op n d : Int) (t : ByteArray) (kv room : Value) (w : World) (hs : s.size ≤ 16384) (ha : at_ ≤ s.size) (hR : Rd rb s at_ w) (hX : Xs xb op n t kv d w) (hL : LibOk w) (hne : xb ≠ rb)
    (hn : num 59 (s.data.toList.drop at_) = none) :
    Calls Tryd.prog 55 #[.pointer (some ⟨rb, 0, none⟩), .pointer (some ⟨xb, 0, none⟩), room] w (FailPost rb xb s op w) := by
  have HC := Lib.hid (number_any rb at_ s 59 59 rfl (by decide) w hs ha hR hL)
  have HN := Lib.hid hn; have HX := Lib.hid hX; clear hn hX hR
  go_enter Tryd.func55, Tryd.ntmps55
  go_wp2_with (go_at_call 65; (with_reducible refine Calls.mono HC.out ?_); rintro e w1 ⟨hg, ⟨z, hz⟩, hno, _⟩; obtain ⟨m, rfl⟩ := hno HN.out; clear hno; have hx1 := HX.out.fr (Fr.grown (S := fun k => k = rb) hg rfl) (fun h => hne h); have hxc := hx1.c.2.1; have hxf := hx1.f 1; have HX1 := Lib.hid hx1; have HG := Lib.hid hg; have HZ := Lib.hid hz; clear hx1 hg hz)
  go_ret
  exact ⟨rfl, (Fr.grown HG.out (.inl rfl)).set _ _ _ (.inr rfl), z, m, d, t, kv, HZ.out.setX hne _ _, HX1.out.setN m⟩
set_option maxRecDepth 100000 in
set_option maxHeartbeats 1000000 in
theorem name_yes (rb xb at_ : Nat) (s : ByteArray) (op n d : Int) (t : ByteArray) (kv room : Value) (w : World) (hs : s.size ≤ 16384) (ha : at_ ≤ s.size) (hR : Rd rb s at_ w) (hX : Xs xb op n t kv d w) (hL : LibOk w) (hne : xb ≠ rb)
    (m : Nat) (rest : List UInt8) (hn : num 59 (s.data.toList.drop at_) = some (m, rest)) :
    Calls Tryd.prog 55 #[.pointer (some ⟨rb, 0, none⟩), .pointer (some ⟨xb, 0, none⟩), room] w fun e w' => ∃ a : Nat, a ≤ s.size ∧ s.data.toList.drop a = rest ∧ NamePost rb xb s op m a t kv d w e w' := by
  have HC := Lib.hid (number_any rb at_ s 59 59 rfl (by decide) w hs ha hR hL)
  have HN := Lib.hid hn; have HX := Lib.hid hX; clear hn hX hR
  go_enter Tryd.func55, Tryd.ntmps55
  go_wp2_with (go_at_call 65; (with_reducible refine Calls.mono HC.out ?_); rintro e w1 ⟨hg, _, _, hyes⟩; obtain ⟨rfl, a, ha', hz, hd⟩ := hyes _ _ HN.out; clear hyes; have hx1 := HX.out.fr (Fr.grown (S := fun k => k = rb) hg rfl) (fun h => hne h); have hxc := hx1.c.2.1; have hxf := hx1.f 1; have HX1 := Lib.hid hx1; have HG := Lib.hid hg; have HZ := Lib.hid hz; have HD := Lib.hid hd; clear hx1 hg hz hd)
  go_ret
  exact ⟨a, ha', HD.out, rfl, (Fr.grown HG.out (.inl rfl)).set _ _ _ (.inr rfl), HZ.out.setX hne _ _, HX1.out.setN m⟩
end Go.Proofs.YtlheoipengndnabDoor
