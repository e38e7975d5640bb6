import Derived.Lib.ParseIntB
import Derived.Lib.Bytealg
import Derived.Shelf.Strings.Builder1
import Derived.Shelf.Small.Bits
import Derived.Shelf.Small.Strs
import Derived.Shelf.Small.Wraps
import Derived.Shelf.Strings.BuilderF
import Derived.Shelf.Strings.BuilderK
import Derived.Shelf.Strconv.Itoa0
import Derived.Shelf.Strconv.Itoa1
import Derived.Shelf.LaysM
import Derived.Shelf.Strconv.Itoa2
import Derived.Shelf.Strconv.Itoa3
import Derived.Shelf.Strconv.Itoa4
import Derived.Shelf.Strconv.ParseIntEmpty
import Derived.Shelf.Strconv.Clone
import Derived.Shelf.Strconv.SyntaxError
import Derived.Shelf.LaysC
import Derived.Shelf.Strconv.ToError
import Derived.Shelf.Strconv.Lower
import Derived.Shelf.Strconv.ParseUint10
import Derived.Shelf.Strconv.ParseUint10Empty
import Derived.Shelf.Strconv.ParseUint10Any
import Derived.Shelf.Strconv.ParseInt10
import Derived.Shelf.Strconv.RangeError
import Derived.Shelf.Strconv.ToErrorRange
import Derived.Shelf.Strconv.ParseUintEmpty
import Derived.Shelf.Strconv.ParseUint10b64
import Derived.Shelf.Strconv.ParseUint10b32
import Derived.Shelf.Strconv.ParseUint10b16
import Derived.Shelf.Strconv.ParseUint10b8
import Derived.Shelf.Strconv.ParseUint10At
import Derived.Shelf.Strconv.ParseInt10At64
import Derived.Shelf.Strconv.ParseInt10At32
import Derived.Shelf.Strconv.ParseInt10At16
import Derived.Shelf.Strconv.ParseInt10At8
import Derived.Shelf.Strconv.ParseInt10All
import Derived.Shelf.Strconv.ParseIntPublic10
import Derived.Shelf.Strconv.ErrVarParseInt
import Derived.Shelf.Strings.Search1
import Derived.Shelf.Bits.Mul64
import Derived.Shelf.Strings.BuilderCap
import Derived.Ground.Names2Prog
import Derived.Shelf.Slices.Clone
import Derived.Shelf.Slices.SearchI
import Derived.Ground.SlgnProg
import Derived.Shelf.SlicesE.Clone
import Derived.WalkKit
import Derived.WalkSpells
import Derived.WalkLawsBesides
import Derived.Handy
import Derived.Lib.Hide
import Derived.Deep.QuietTactic
import Derived.BigQuiet
import Derived.Deep.RegionHeld3
import Derived.Lib.Strings
import Derived.Lib.IndexBytes
import Derived.Test.YtbdimlppnhcicaaGreatDoorRows
import Derived.Test.YtbdimlppnhcicaaGreatDoorProg
import Derived.Test.YtbdimlppnhcicaaGreatDoorNum
import Derived.Test.YtbdimlppnhcicaaGreatDoorShelf
namespace Go.Proofs.YtbdimlppnhcicaaGreatDoor
set_option linter.unusedVariables false
open Go.RowKit

theorem idx78 (t : ByteArray) (ec k : Int) (E : UInt8) (hE : ec = (E.toNat : Int)) (hk : Lib.indexByte t.data.toList E = k) (w : World) :
    Calls Tryz.prog 222 #[.string t, .int .u8 ec] w fun e w' => e = .returned (.int .i64 k) ∧ w' = w := by
  have h := Tryz.strings_IndexByte t ec w
  have e1 : ec.toNat.toUInt8 = E := by rw [hE]; simp
  rw [e1, hk] at h
  exact h
theorem below_drewN {B : Nat} {a w : World} (h : Below B a w) (n : Nat) : Below B a (w.drewN n) := by
  induction n with
  | zero => exact h
  | succ n ih => exact ih.drew
theorem decB (p : Prop) [Decidable p] (h : p) : decide p = true := by simp [h]
theorem decN (p : Prop) [Decidable p] (h : ¬ p) : decide p = false := by simp [h]

set_option maxRecDepth 100000 in
set_option maxHeartbeats 1000000 in
theorem number_a (rb at_ : Nat) (s : ByteArray) (ec : Int) (E : UInt8) (hE : ec = (E.toNat : Int)) (w : World) (hs : s.size ≤ 16384) (ha : at_ ≤ s.size)
    (c0 : w.cell? ⟨rb, 0, none⟩ = some (.string s)) (c1 : w.cell? ⟨rb, 1, none⟩ = some (.int .i64 at_))
    (k : Int) (hk : Lib.indexByte (s.extract at_ s.size).data.toList E = k) (k0 : k < 1) :
    Calls Tryz.prog 216 #[.pointer (some ⟨rb, 0, none⟩), .int .u8 ec] w fun e' w' => e' = .returned (.tuple #[.int .i64 0, .bool false]) ∧ Below w.heap.size w w' := by
  have HI : Hid (∀ w, Calls Tryz.prog 222 #[.string (s.extract at_ s.size), .int .u8 ec] w fun e w' => e = .returned (.int .i64 k) ∧ w' = w) := fun w => idx78 _ ec k E hE hk w
  clear hk hE
  have q1 := decB (k < 1) k0
  go_enter Tryz.func216, Tryz.ntmps216
  go_wp2_with fail
  go_quiet ((go_at_call 222; exact Calls.quiet_of_same (HI.out _)))
  go_wp2_with fail
  go_quiet (fail)
  go_wp2
  go_ret2
  exact ⟨rfl, by (repeat' (first | (with_reducible exact Below.refl _ _) | (with_reducible refine Below.alloc ?_ ?_ _) | (with_reducible refine Below.drew ?_) | (with_reducible refine Below.setCell ?_ ?_ _) | (with_reducible refine below_drewN ?_ _) | (refine Below.trans ?_ (Below.mono (by assumption) ?_)) | go_size))⟩

set_option maxRecDepth 100000 in
set_option maxHeartbeats 1000000 in
theorem number_b (rb at_ : Nat) (s : ByteArray) (ec : Int) (E : UInt8) (hE : ec = (E.toNat : Int)) (w : World) (hs : s.size ≤ 16384) (ha : at_ ≤ s.size)
    (c0 : w.cell? ⟨rb, 0, none⟩ = some (.string s)) (c1 : w.cell? ⟨rb, 1, none⟩ = some (.int .i64 at_))
    (k : Int) (hk : Lib.indexByte (s.extract at_ s.size).data.toList E = k) (k0 : 19 < k) :
    Calls Tryz.prog 216 #[.pointer (some ⟨rb, 0, none⟩), .int .u8 ec] w fun e' w' => e' = .returned (.tuple #[.int .i64 0, .bool false]) ∧ Below w.heap.size w w' := by
  have HI : Hid (∀ w, Calls Tryz.prog 222 #[.string (s.extract at_ s.size), .int .u8 ec] w fun e w' => e = .returned (.int .i64 k) ∧ w' = w) := fun w => idx78 _ ec k E hE hk w
  clear hk hE
  have q1 := decN (k < 1) (by omega)
  have q2 := decB (19 < k) k0
  go_enter Tryz.func216, Tryz.ntmps216
  go_wp2_with fail
  go_quiet ((go_at_call 222; exact Calls.quiet_of_same (HI.out _)))
  go_wp2_with fail
  go_quiet (fail)
  go_wp2
  go_ret2
  exact ⟨rfl, by (repeat' (first | (with_reducible exact Below.refl _ _) | (with_reducible refine Below.alloc ?_ ?_ _) | (with_reducible refine Below.drew ?_) | (with_reducible refine Below.setCell ?_ ?_ _) | (with_reducible refine below_drewN ?_ _) | (refine Below.trans ?_ (Below.mono (by assumption) ?_)) | go_size))⟩

set_option maxRecDepth 100000 in
set_option maxHeartbeats 1000000 in
theorem number_c (rb at_ : Nat) (s : ByteArray) (ec : Int) (E : UInt8) (hE : ec = (E.toNat : Int)) (w : World) (hs : s.size ≤ 16384) (ha : at_ ≤ s.size)
    (c0 : w.cell? ⟨rb, 0, none⟩ = some (.string s)) (c1 : w.cell? ⟨rb, 1, none⟩ = some (.int .i64 at_))
    (k : Int) (hk : Lib.indexByte (s.extract at_ s.size).data.toList E = k) (k0 : 1 < k) (k1 : k ≤ 19) (hlt : at_ < s.size) (h48 : s[at_] = 48) :
    Calls Tryz.prog 216 #[.pointer (some ⟨rb, 0, none⟩), .int .u8 ec] w fun e' w' => e' = .returned (.tuple #[.int .i64 0, .bool false]) ∧ Below w.heap.size w w' := by
  have HI : Hid (∀ w, Calls Tryz.prog 222 #[.string (s.extract at_ s.size), .int .u8 ec] w fun e w' => e = .returned (.int .i64 k) ∧ w' = w) := fun w => idx78 _ ec k E hE hk w
  clear hk hE
  have q1 := decN (k < 1) (by omega)
  have q2 := decN (19 < k) (by omega)
  have q3 := decB (1 < k) k0
  have q : (((s[at_]).toNat : Int) == 48) = true := by rw [h48]; rfl
  clear h48
  go_enter Tryz.func216, Tryz.ntmps216
  go_wp2_with fail
  go_quiet ((go_at_call 222; exact Calls.quiet_of_same (HI.out _)))
  go_wp2_with fail
  go_quiet (fail)
  go_wp2
  go_ret2
  exact ⟨rfl, by (repeat' (first | (with_reducible exact Below.refl _ _) | (with_reducible refine Below.alloc ?_ ?_ _) | (with_reducible refine Below.drew ?_) | (with_reducible refine Below.setCell ?_ ?_ _) | (with_reducible refine below_drewN ?_ _) | (refine Below.trans ?_ (Below.mono (by assumption) ?_)) | go_size))⟩

set_option maxRecDepth 100000 in
set_option maxHeartbeats 1000000 in
theorem number_d (rb at_ : Nat) (s : ByteArray) (ec : Int) (E : UInt8) (hE : ec = (E.toNat : Int)) (w : World) (hs : s.size ≤ 16384) (ha : at_ ≤ s.size)
    (c0 : w.cell? ⟨rb, 0, none⟩ = some (.string s)) (c1 : w.cell? ⟨rb, 1, none⟩ = some (.int .i64 at_))
    (k : Int) (hk : Lib.indexByte (s.extract at_ s.size).data.toList E = k) (k0 : 1 ≤ k) (k1 : k ≤ 19) (hlt : at_ < s.size) (h48 : ¬ s[at_] = 48) (hd : (s[at_]).toNat < 48) :
    Calls Tryz.prog 216 #[.pointer (some ⟨rb, 0, none⟩), .int .u8 ec] w fun e' w' => e' = .returned (.tuple #[.int .i64 0, .bool false]) ∧ Below w.heap.size w w' := by
  have HI : Hid (∀ w, Calls Tryz.prog 222 #[.string (s.extract at_ s.size), .int .u8 ec] w fun e w' => e = .returned (.int .i64 k) ∧ w' = w) := fun w => idx78 _ ec k E hE hk w
  clear hk hE
  have q1 := decN (k < 1) (by omega)
  have q2 := decN (19 < k) (by omega)
  have q : (((s[at_]).toNat : Int) == 48) = false := by simp; omega
  have q4 := decB (((s[at_]).toNat : Int) < 48) (by omega)
  clear h48 hd
  go_enter Tryz.func216, Tryz.ntmps216
  go_wp2_with fail
  go_quiet ((go_at_call 222; exact Calls.quiet_of_same (HI.out _)))
  go_wp2_with fail
  go_quiet (fail)
  go_wp2
  go_ret2
  exact ⟨rfl, by (repeat' (first | (with_reducible exact Below.refl _ _) | (with_reducible refine Below.alloc ?_ ?_ _) | (with_reducible refine Below.drew ?_) | (with_reducible refine Below.setCell ?_ ?_ _) | (with_reducible refine below_drewN ?_ _) | (refine Below.trans ?_ (Below.mono (by assumption) ?_)) | go_size))⟩

set_option maxRecDepth 100000 in
set_option maxHeartbeats 1000000 in
theorem number_e (rb at_ : Nat) (s : ByteArray) (ec : Int) (E : UInt8) (hE : ec = (E.toNat : Int)) (w : World) (hs : s.size ≤ 16384) (ha : at_ ≤ s.size)
    (c0 : w.cell? ⟨rb, 0, none⟩ = some (.string s)) (c1 : w.cell? ⟨rb, 1, none⟩ = some (.int .i64 at_))
    (k : Int) (hk : Lib.indexByte (s.extract at_ s.size).data.toList E = k) (k0 : 1 ≤ k) (k1 : k ≤ 19) (hlt : at_ < s.size) (hd : 57 < (s[at_]).toNat) :
    Calls Tryz.prog 216 #[.pointer (some ⟨rb, 0, none⟩), .int .u8 ec] w fun e' w' => e' = .returned (.tuple #[.int .i64 0, .bool false]) ∧ Below w.heap.size w w' := by
  have HI : Hid (∀ w, Calls Tryz.prog 222 #[.string (s.extract at_ s.size), .int .u8 ec] w fun e w' => e = .returned (.int .i64 k) ∧ w' = w) := fun w => idx78 _ ec k E hE hk w
  clear hk hE
  have q1 := decN (k < 1) (by omega)
  have q2 := decN (19 < k) (by omega)
  have q : (((s[at_]).toNat : Int) == 48) = false := by simp; omega
  have q4 := decN (((s[at_]).toNat : Int) < 48) (by omega)
  have q5 := decB (57 < ((s[at_]).toNat : Int)) (by omega)
  clear hd
  go_enter Tryz.func216, Tryz.ntmps216
  go_wp2_with fail
  go_quiet ((go_at_call 222; exact Calls.quiet_of_same (HI.out _)))
  go_wp2_with fail
  go_quiet (fail)
  go_wp2
  go_ret2
  exact ⟨rfl, by (repeat' (first | (with_reducible exact Below.refl _ _) | (with_reducible refine Below.alloc ?_ ?_ _) | (with_reducible refine Below.drew ?_) | (with_reducible refine Below.setCell ?_ ?_ _) | (with_reducible refine below_drewN ?_ _) | (refine Below.trans ?_ (Below.mono (by assumption) ?_)) | go_size))⟩

end Go.Proofs.YtbdimlppnhcicaaGreatDoor
namespace Go.Proofs.YtbdimlppnhcicaaGreatDoor
open Go.RowKit


/-- a reader lies in block rb: its text and its place -/
def Rd (rb : Nat) (s : ByteArray) (z : Int) (w : World) : Prop := w.heap[rb]? = some (.cells #[.string s, .int .i64 z] 251 (0, 0))
theorem Rd.c0 {rb : Nat} {s : ByteArray} {z : Int} {w : World} (h : Rd rb s z w) : w.cell? ⟨rb, 0, none⟩ = some (.string s) := by simp [World.cell?, show w.heap[rb]? = _ from h]
theorem Rd.c1 {rb : Nat} {s : ByteArray} {z : Int} {w : World} (h : Rd rb s z w) : w.cell? ⟨rb, 1, none⟩ = some (.int .i64 z) := by simp [World.cell?, show w.heap[rb]? = _ from h]
theorem Rd.f {rb : Nat} {s : ByteArray} {z : Int} {w : World} (h : Rd rb s z w) (o : Nat) : w.frozen? ⟨rb, o, none⟩ = false := by simp [World.frozen?, show w.heap[rb]? = _ from h]
theorem Rd.lt {rb : Nat} {s : ByteArray} {z : Int} {w : World} (h : Rd rb s z w) : rb < w.heap.size := by
  rcases Nat.lt_or_ge rb w.heap.size with g | g
  · exact g
  · rw [Rd, Array.getElem?_eq_none g] at h; cases h
theorem Rd.below {rb : Nat} {s : ByteArray} {z : Int} {w w' : World} (h : Rd rb s z w) (hb : Below w.heap.size w w') : Rd rb s z w' := by
  rw [Rd, hb.block rb h.lt]; exact h
theorem Rd.set {rb : Nat} {s : ByteArray} {z : Int} {w : World} (h : Rd rb s z w) (z' : Int) : Rd rb s z' (w.setCell ⟨rb, 1, none⟩ (.int .i64 z')) := by
  rw [Rd] at h ⊢
  simp [World.setCell, Array.getElem?_modify, h]

/-- the library's two error variables hold errors, or nothing -/
def LibOk (w : World) : Prop := ∀ g, g = 5 ∨ g = 6 → ∃ ev, w.cell? ⟨g, 0, none⟩ = some ev ∧ (ev = .nilIface ∨ ∃ te pe, ev = .iface te pe)
theorem LibOk.below {w w' : World} (h : LibOk w) (hb : Below w.heap.size w w') : LibOk w' := fun g hg => by
  obtain ⟨ev, h1, h2⟩ := h g hg
  exact ⟨ev, by rw [hb.cell (p := ⟨g, 0, none⟩) (World.block_lt_of_cell? w _ h1)]; exact h1, h2⟩

theorem grown_below {w w' : World} (h : Below w.heap.size w w') (row : Option Nat) : w.grownBy w' row := ⟨h.os, h.tape, h.output, h.size, fun k hk _ => h.block k hk⟩
theorem grown_trans {a b c : World} {row : Option Nat} (h : a.grownBy b row) (k : b.grownBy c row) : a.grownBy c row :=
  ⟨k.os.trans h.os, k.tape.trans h.tape, k.output.trans h.output, Nat.le_trans h.size k.size, fun i hi hr => (k.block i (Nat.lt_of_lt_of_le hi h.size) hr).trans (h.block i hi hr)⟩
theorem grown_set (w : World) (rb o : Nat) (v : Value) : w.grownBy (w.setCell ⟨rb, o, none⟩ v) (some rb) :=
  ⟨rfl, rfl, rfl, by simp [World.setCell], fun k _ hr => Below.heap_setCell _ _ _ _ (fun e => hr (by simp [e]))⟩
theorem LibOk.grown {w w' : World} {rb : Nat} (h : LibOk w) (hb : w.grownBy w' (some rb)) (hr : 7 ≤ rb) : LibOk w' := fun g hg => by
  obtain ⟨ev, h1, h2⟩ := h g hg
  refine ⟨ev, ?_, h2⟩
  rw [World.cell?_of_block (hb.block g (World.block_lt_of_cell? w ⟨g, 0, none⟩ h1) (fun e => by cases e; omega))]
  exact h1

theorem drewN_same (w : World) (n : Nat) : Below w.heap.size w (w.drewN n) ∧ (w.drewN n).heap = w.heap := by
  induction n with
  | zero => exact ⟨Below.refl _ _, rfl⟩
  | succ n ih => exact ⟨ih.1.drew, ih.2⟩
def HeldN (rb : Nat) (s : ByteArray) (z : Int) (W w : World) : Prop := Below W.heap.size W w ∧ Rd rb s z w ∧ LibOk w
theorem keepN {W b : World} {n rb : Nat} {s : ByteArray} {z : Int} (h : Rd rb s z W) (hl : LibOk W) (hb : Below (W.drewN n).heap.size (W.drewN n) b) :
    b.cell? ⟨rb, 0, none⟩ = some (.string s) ∧ b.cell? ⟨rb, 1, none⟩ = some (.int .i64 z) ∧ b.frozen? ⟨rb, 1, none⟩ = false ∧ HeldN rb s z W b := by
  have hk := (drewN_same W n)
  have hb' : Below W.heap.size W b := hk.1.trans (hb.mono (by rw [hk.2]; exact Nat.le_refl _))
  exact ⟨(h.below hb').c0, (h.below hb').c1, (h.below hb').f 1, hb', h.below hb', hl.below hb'⟩
theorem below_freeze {B : Nat} {a w : World} (h : Below B a w) (p : Addr) (n : Nat) (hp : B ≤ p.block) : Below B a (w.freeze p n) := by
  unfold World.freeze
  split
  · exact h
  · exact h.trans ⟨rfl, rfl, rfl, by simp, fun k hk => by
      show (w.heap.modify p.block _)[k]? = _
      rw [Array.getElem?_modify, if_neg (by omega)]⟩
theorem bytesWorld_below (w : World) (t : Nat) (x : ByteArray) : Below w.heap.size w (Lib.bytesWorld w t x) := by
  unfold Lib.bytesWorld
  exact below_freeze (((Below.refl _ _).drew).alloc (Nat.le_refl _) _) _ _ (Nat.le_refl _)
theorem drewN_size (w : World) (n : Nat) : (w.drewN n).heap.size = w.heap.size := by rw [(drewN_same w n).2]
theorem par79_ok (t : ByteArray) (v : Int) (h : Lib.parseIntB 64 t.data.toList = .ok v) (hs : t.size ≤ 16384) (w : World) :
    Calls Tryz.prog 188 #[.string t, .int .i64 10, .int .i64 64] w fun e w' => e = .returned (.tuple #[.int .i64 v, .nilIface]) ∧ Below w.heap.size w w' := by
  refine (Tryz.strconv_ParseInt_10_at64_ok t (by omega) v h w).mono ?_
  rintro e w' ⟨rfl, rfl | ⟨x, rfl⟩⟩
  · exact ⟨rfl, Below.refl _ _⟩
  · exact ⟨rfl, bytesWorld_below _ _ _⟩
def BadPost (w : World) (e : Ending) (w' : World) : Prop := ∃ (n : Int) (b : Nat), e = .returned (.tuple #[.int .i64 n, .iface 294 (.pointer (some ⟨b, 0, none⟩))]) ∧ Below w.heap.size w w'
theorem par79_bad (t : ByteArray) (h : ∀ v, Lib.parseIntB 64 t.data.toList ≠ .ok v) (hs : t.size ≤ 16384) (w : World) (hl : LibOk w) :
    Calls Tryz.prog 188 #[.string t, .int .i64 10, .int .i64 64] w (BadPost w) := by
  cases hp : Lib.parseIntB 64 t.data.toList with
  | ok v => exact absurd hp (h v)
  | range =>
    obtain ⟨ev, h1, h2⟩ := hl 6 (.inr rfl)
    refine (Tryz.strconv_ParseInt_10_at64_range t (by omega) hp ev w h1 h2).mono ?_
    rintro e w' ⟨b, rfl, _, _, hb⟩
    exact ⟨_, b, rfl, hb⟩
  | _ =>
    obtain ⟨ev, h1, h2⟩ := hl 5 (.inl rfl)
    refine (Tryz.strconv_ParseInt_10_at64_syntax t (by omega) hp ev w h1 h2).mono ?_
    rintro e w' ⟨b, rfl, _, _, hb⟩
    exact ⟨_, b, rfl, hb⟩

def LatePost (v : Int) (rb : Nat) (s : ByteArray) (z : Nat) (w : World) (e : Ending) (w' : World) : Prop := e = .returned (.tuple #[.int .i64 v, .bool true]) ∧ w.grownBy w' (some rb) ∧ Rd rb s z w'
def LateBad (rb : Nat) (s : ByteArray) (z : Nat) (w : World) (e : Ending) (w' : World) : Prop := (∃ n : Int, e = .returned (.tuple #[.int .i64 n, .bool false])) ∧ w.grownBy w' (some rb) ∧ Rd rb s z w'
theorem held_drewN {rb : Nat} {s : ByteArray} {z : Int} {W w : World} (h : Rd rb s z W) (hl : LibOk W) (hd : Below W.heap.size W w) : HeldN rb s z W w := ⟨hd, h.below hd, hl.below hd⟩
set_option maxRecDepth 100000 in
set_option maxHeartbeats 1000000 in
theorem number_ok0 (rb at_ : Nat) (s : ByteArray) (ec : Int) (E : UInt8) (hE : ec = (E.toNat : Int)) (w : World) (hs : s.size ≤ 16384) (hR : Rd rb s at_ w) (hL : LibOk w)
    (k : Int) (hk : Lib.indexByte (s.extract at_ s.size).data.toList E = k) (k0 : 1 ≤ k) (k1 : k ≤ 19) (hlt : at_ < s.size) (h : s[at_] = 48) (hk1 : k = 1) (hd : 48 ≤ (s[at_]).toNat) (hd' : (s[at_]).toNat ≤ 57)
    (v : Int) (hp : Lib.parseIntB 64 (s.extract at_ (at_ + k.toNat)).data.toList = .ok v) (hk2 : at_ + k.toNat < s.size) :
    Calls Tryz.prog 216 #[.pointer (some ⟨rb, 0, none⟩), .int .u8 ec] w (LatePost v rb s (at_ + (k.toNat + 1)) w) := by
  have HI : Hid (∀ w, Calls Tryz.prog 222 #[.string (s.extract at_ s.size), .int .u8 ec] w fun e w' => e = .returned (.int .i64 k) ∧ w' = w) := fun w => idx78 _ ec k E hE hk w
  clear hk hE
  have c0 := hR.c0
  have c1 := hR.c1
  have hf := hR.f 1
  have HR := Lib.hid hR; clear hR
  obtain ⟨k, rfl⟩ := Int.eq_ofNat_of_zero_le (by omega : 0 ≤ k)
  rw [Int.toNat_natCast] at hp hk2 ⊢
  have HP := Lib.hid (fun w => par79_ok _ v hp (by simp; omega) w); clear hp
  have q1 := decN ((k : Int) < 1) (by omega)
  have q2 := decN (19 < (k : Int)) (by omega)
  have q4 := decN (((s[at_]).toNat : Int) < 48) (by omega)
  have q5 := decN (57 < ((s[at_]).toNat : Int)) (by omega)
  have q3 := decN (1 < (k : Int)) (by omega)
  have q : (((s[at_]).toNat : Int) == 48) = true := by rw [h]; rfl
  clear hd hd' h hk1
  go_enter Tryz.func216, Tryz.ntmps216
  go_wp2_with fail
  go_quiet ((go_at_call 222; exact Calls.quiet_of_same (HI.out _)))
  go_wp2_with fail
  go_quiet (fail)
  go_wp2_with fail
  have b1 : (0 : Int) ≤ (at_ : Int) := by omega
  have b2 : (at_ : Int) + (k : Int) ≤ (s.size : Int) := by omega
  have b3 : IntKind.i64.wrap ((at_ : Int) + (k : Int)) = (at_ : Int) + (k : Int) := IntWalk.i64_in _ (by omega)
  have b4 : ((at_ : Int) + (k : Int)).toNat = at_ + k := by omega
  have b5 : (at_ : Int) ≤ (at_ : Int) + (k : Int) := by omega
  have b6 : at_ ≤ at_ + k := by omega
  have b7 : at_ + k ≤ s.size := by omega
  have b8 : (0 : Int) ≤ (at_ : Int) + (k : Int) := by omega
  go_region_held3 (fun w' => w'.cell? ⟨rb, 0, none⟩ = some (.string s) ∧ w'.cell? ⟨rb, 1, none⟩ = some (.int .i64 at_) ∧ w'.frozen? ⟨rb, 1, none⟩ = false ∧ HeldN rb s at_ w w')
    ((first | (exact keepN HR.out hL hb1) | (refine ⟨?_, ?_, ?_, held_drewN HR.out hL ?_⟩; all_goals first | (simp [*]; done) | (repeat (first | exact Below.refl _ _ | refine below_drewN ?_ _ | refine Below.drew ?_)))))
    (first | (go_at_call 188; (with_reducible refine Calls.mono (HP.out _) ?_); rintro e w1 ⟨rfl, hb1⟩))
  go_split_ands
  go_wp2_with fail
  all_goals go_quiet (fail)
  all_goals go_wp2
  all_goals go_ret2
  all_goals
    have hh : HeldN rb s (at_ : Int) w w1 := by assumption
    refine ⟨rfl, ?_, ?_⟩
    · exact grown_trans (grown_below hh.1 _) (grown_trans (grown_set _ _ _ _) (grown_below (below_drewN (Below.refl _ _) _) _))
    · have h3 := hh.2.1.set ((at_ : Int) + ((k : Int) + 1))
      rw [show ((at_ + (k + 1) : Nat) : Int) = (at_ : Int) + ((k : Int) + 1) by omega]
      exact h3.below (below_drewN (Below.refl _ _) _)

set_option maxRecDepth 100000 in
set_option maxHeartbeats 1000000 in
theorem number_ok1 (rb at_ : Nat) (s : ByteArray) (ec : Int) (E : UInt8) (hE : ec = (E.toNat : Int)) (w : World) (hs : s.size ≤ 16384) (hR : Rd rb s at_ w) (hL : LibOk w)
    (k : Int) (hk : Lib.indexByte (s.extract at_ s.size).data.toList E = k) (k0 : 1 ≤ k) (k1 : k ≤ 19) (hlt : at_ < s.size) (h : ¬ s[at_] = 48) (hd : 48 ≤ (s[at_]).toNat) (hd' : (s[at_]).toNat ≤ 57)
    (v : Int) (hp : Lib.parseIntB 64 (s.extract at_ (at_ + k.toNat)).data.toList = .ok v) (hk2 : at_ + k.toNat < s.size) :
    Calls Tryz.prog 216 #[.pointer (some ⟨rb, 0, none⟩), .int .u8 ec] w (LatePost v rb s (at_ + (k.toNat + 1)) w) := by
  have HI : Hid (∀ w, Calls Tryz.prog 222 #[.string (s.extract at_ s.size), .int .u8 ec] w fun e w' => e = .returned (.int .i64 k) ∧ w' = w) := fun w => idx78 _ ec k E hE hk w
  clear hk hE
  have c0 := hR.c0
  have c1 := hR.c1
  have hf := hR.f 1
  have HR := Lib.hid hR; clear hR
  obtain ⟨k, rfl⟩ := Int.eq_ofNat_of_zero_le (by omega : 0 ≤ k)
  rw [Int.toNat_natCast] at hp hk2 ⊢
  have HP := Lib.hid (fun w => par79_ok _ v hp (by simp; omega) w); clear hp
  have q1 := decN ((k : Int) < 1) (by omega)
  have q2 := decN (19 < (k : Int)) (by omega)
  have q4 := decN (((s[at_]).toNat : Int) < 48) (by omega)
  have q5 := decN (57 < ((s[at_]).toNat : Int)) (by omega)
  have q : (((s[at_]).toNat : Int) == 48) = false := by
    simp only [beq_eq_false_iff_ne, ne_eq]; intro h'; exact h (UInt8.toNat_inj.1 (by simpa using (by omega : (s[at_]).toNat = 48)))
  clear hd hd' h
  go_enter Tryz.func216, Tryz.ntmps216
  go_wp2_with fail
  go_quiet ((go_at_call 222; exact Calls.quiet_of_same (HI.out _)))
  go_wp2_with fail
  go_quiet (fail)
  go_wp2_with fail
  have b1 : (0 : Int) ≤ (at_ : Int) := by omega
  have b2 : (at_ : Int) + (k : Int) ≤ (s.size : Int) := by omega
  have b3 : IntKind.i64.wrap ((at_ : Int) + (k : Int)) = (at_ : Int) + (k : Int) := IntWalk.i64_in _ (by omega)
  have b4 : ((at_ : Int) + (k : Int)).toNat = at_ + k := by omega
  have b5 : (at_ : Int) ≤ (at_ : Int) + (k : Int) := by omega
  have b6 : at_ ≤ at_ + k := by omega
  have b7 : at_ + k ≤ s.size := by omega
  have b8 : (0 : Int) ≤ (at_ : Int) + (k : Int) := by omega
  go_region_held3 (fun w' => w'.cell? ⟨rb, 0, none⟩ = some (.string s) ∧ w'.cell? ⟨rb, 1, none⟩ = some (.int .i64 at_) ∧ w'.frozen? ⟨rb, 1, none⟩ = false ∧ HeldN rb s at_ w w')
    ((first | (exact keepN HR.out hL hb1) | (refine ⟨?_, ?_, ?_, held_drewN HR.out hL ?_⟩; all_goals first | (simp [*]; done) | (repeat (first | exact Below.refl _ _ | refine below_drewN ?_ _ | refine Below.drew ?_)))))
    (first | (go_at_call 188; (with_reducible refine Calls.mono (HP.out _) ?_); rintro e w1 ⟨rfl, hb1⟩))
  go_split_ands
  go_wp2_with fail
  all_goals go_quiet (fail)
  all_goals go_wp2
  all_goals go_ret2
  all_goals
    have hh : HeldN rb s (at_ : Int) w w1 := by assumption
    refine ⟨rfl, ?_, ?_⟩
    · exact grown_trans (grown_below hh.1 _) (grown_trans (grown_set _ _ _ _) (grown_below (below_drewN (Below.refl _ _) _) _))
    · have h3 := hh.2.1.set ((at_ : Int) + ((k : Int) + 1))
      rw [show ((at_ + (k + 1) : Nat) : Int) = (at_ : Int) + ((k : Int) + 1) by omega]
      exact h3.below (below_drewN (Below.refl _ _) _)

set_option maxRecDepth 100000 in
set_option maxHeartbeats 1000000 in
theorem number_bad0 (rb at_ : Nat) (s : ByteArray) (ec : Int) (E : UInt8) (hE : ec = (E.toNat : Int)) (w : World) (hs : s.size ≤ 16384) (hR : Rd rb s at_ w) (hL : LibOk w)
    (k : Int) (hk : Lib.indexByte (s.extract at_ s.size).data.toList E = k) (k0 : 1 ≤ k) (k1 : k ≤ 19) (hlt : at_ < s.size) (h : s[at_] = 48) (hk1 : k = 1) (hd : 48 ≤ (s[at_]).toNat) (hd' : (s[at_]).toNat ≤ 57)
    (hp : ∀ v, Lib.parseIntB 64 (s.extract at_ (at_ + k.toNat)).data.toList ≠ .ok v) (hk2 : at_ + k.toNat < s.size) :
    Calls Tryz.prog 216 #[.pointer (some ⟨rb, 0, none⟩), .int .u8 ec] w (LateBad rb s (at_ + (k.toNat + 1)) w) := by
  have HI : Hid (∀ w, Calls Tryz.prog 222 #[.string (s.extract at_ s.size), .int .u8 ec] w fun e w' => e = .returned (.int .i64 k) ∧ w' = w) := fun w => idx78 _ ec k E hE hk w
  clear hk hE
  have c0 := hR.c0
  have c1 := hR.c1
  have hf := hR.f 1
  have HR := Lib.hid hR; clear hR
  obtain ⟨k, rfl⟩ := Int.eq_ofNat_of_zero_le (by omega : 0 ≤ k)
  rw [Int.toNat_natCast] at hp hk2 ⊢
  have HP := Lib.hid (fun w hl => par79_bad _ hp (by simp; omega) w hl); clear hp
  have q1 := decN ((k : Int) < 1) (by omega)
  have q2 := decN (19 < (k : Int)) (by omega)
  have q4 := decN (((s[at_]).toNat : Int) < 48) (by omega)
  have q5 := decN (57 < ((s[at_]).toNat : Int)) (by omega)
  have q3 := decN (1 < (k : Int)) (by omega)
  have q : (((s[at_]).toNat : Int) == 48) = true := by rw [h]; rfl
  clear hd hd' h hk1
  go_enter Tryz.func216, Tryz.ntmps216
  go_wp2_with fail
  go_quiet ((go_at_call 222; exact Calls.quiet_of_same (HI.out _)))
  go_wp2_with fail
  go_quiet (fail)
  go_wp2_with fail
  have b1 : (0 : Int) ≤ (at_ : Int) := by omega
  have b2 : (at_ : Int) + (k : Int) ≤ (s.size : Int) := by omega
  have b3 : IntKind.i64.wrap ((at_ : Int) + (k : Int)) = (at_ : Int) + (k : Int) := IntWalk.i64_in _ (by omega)
  have b4 : ((at_ : Int) + (k : Int)).toNat = at_ + k := by omega
  have b5 : (at_ : Int) ≤ (at_ : Int) + (k : Int) := by omega
  have b6 : at_ ≤ at_ + k := by omega
  have b7 : at_ + k ≤ s.size := by omega
  have b8 : (0 : Int) ≤ (at_ : Int) + (k : Int) := by omega
  go_region_held3 (fun w' => w'.cell? ⟨rb, 0, none⟩ = some (.string s) ∧ w'.cell? ⟨rb, 1, none⟩ = some (.int .i64 at_) ∧ w'.frozen? ⟨rb, 1, none⟩ = false ∧ HeldN rb s at_ w w')
    ((first | (exact keepN HR.out hL hb1) | (refine ⟨?_, ?_, ?_, held_drewN HR.out hL ?_⟩; all_goals first | (simp [*]; done) | (repeat (first | exact Below.refl _ _ | refine below_drewN ?_ _ | refine Below.drew ?_)))))
    (first | (go_at_call 188; go_split_ands; (with_reducible refine Calls.mono (HP.out _ (hL.below (by repeat (first | exact Below.refl _ _ | refine below_drewN ?_ _ | refine Below.drew ?_)))) ?_); rintro e w1 ⟨n1, b1', rfl, hb1⟩))
  go_split_ands
  go_wp2_with fail
  all_goals go_quiet (fail)
  all_goals go_wp2
  all_goals go_ret2
  all_goals
    have hh : HeldN rb s (at_ : Int) w w1 := by assumption
    refine ⟨⟨_, rfl⟩, ?_, ?_⟩
    · exact grown_trans (grown_below hh.1 _) (grown_trans (grown_set _ _ _ _) (grown_below (below_drewN (Below.refl _ _) _) _))
    · have h3 := hh.2.1.set ((at_ : Int) + ((k : Int) + 1))
      rw [show ((at_ + (k + 1) : Nat) : Int) = (at_ : Int) + ((k : Int) + 1) by omega]
      exact h3.below (below_drewN (Below.refl _ _) _)

set_option maxRecDepth 100000 in
set_option maxHeartbeats 1000000 in
theorem number_bad1 (rb at_ : Nat) (s : ByteArray) (ec : Int) (E : UInt8) (hE : ec = (E.toNat : Int)) (w : World) (hs : s.size ≤ 16384) (hR : Rd rb s at_ w) (hL : LibOk w)
    (k : Int) (hk : Lib.indexByte (s.extract at_ s.size).data.toList E = k) (k0 : 1 ≤ k) (k1 : k ≤ 19) (hlt : at_ < s.size) (h : ¬ s[at_] = 48) (hd : 48 ≤ (s[at_]).toNat) (hd' : (s[at_]).toNat ≤ 57)
    (hp : ∀ v, Lib.parseIntB 64 (s.extract at_ (at_ + k.toNat)).data.toList ≠ .ok v) (hk2 : at_ + k.toNat < s.size) :
    Calls Tryz.prog 216 #[.pointer (some ⟨rb, 0, none⟩), .int .u8 ec] w (LateBad rb s (at_ + (k.toNat + 1)) w) := by
  have HI : Hid (∀ w, Calls Tryz.prog 222 #[.string (s.extract at_ s.size), .int .u8 ec] w fun e w' => e = .returned (.int .i64 k) ∧ w' = w) := fun w => idx78 _ ec k E hE hk w
  clear hk hE
  have c0 := hR.c0
  have c1 := hR.c1
  have hf := hR.f 1
  have HR := Lib.hid hR; clear hR
  obtain ⟨k, rfl⟩ := Int.eq_ofNat_of_zero_le (by omega : 0 ≤ k)
  rw [Int.toNat_natCast] at hp hk2 ⊢
  have HP := Lib.hid (fun w hl => par79_bad _ hp (by simp; omega) w hl); clear hp
  have q1 := decN ((k : Int) < 1) (by omega)
  have q2 := decN (19 < (k : Int)) (by omega)
  have q4 := decN (((s[at_]).toNat : Int) < 48) (by omega)
  have q5 := decN (57 < ((s[at_]).toNat : Int)) (by omega)
  have q : (((s[at_]).toNat : Int) == 48) = false := by
    simp only [beq_eq_false_iff_ne, ne_eq]; intro h'; exact h (UInt8.toNat_inj.1 (by simpa using (by omega : (s[at_]).toNat = 48)))
  clear hd hd' h
  go_enter Tryz.func216, Tryz.ntmps216
  go_wp2_with fail
  go_quiet ((go_at_call 222; exact Calls.quiet_of_same (HI.out _)))
  go_wp2_with fail
  go_quiet (fail)
  go_wp2_with fail
  have b1 : (0 : Int) ≤ (at_ : Int) := by omega
  have b2 : (at_ : Int) + (k : Int) ≤ (s.size : Int) := by omega
  have b3 : IntKind.i64.wrap ((at_ : Int) + (k : Int)) = (at_ : Int) + (k : Int) := IntWalk.i64_in _ (by omega)
  have b4 : ((at_ : Int) + (k : Int)).toNat = at_ + k := by omega
  have b5 : (at_ : Int) ≤ (at_ : Int) + (k : Int) := by omega
  have b6 : at_ ≤ at_ + k := by omega
  have b7 : at_ + k ≤ s.size := by omega
  have b8 : (0 : Int) ≤ (at_ : Int) + (k : Int) := by omega
  go_region_held3 (fun w' => w'.cell? ⟨rb, 0, none⟩ = some (.string s) ∧ w'.cell? ⟨rb, 1, none⟩ = some (.int .i64 at_) ∧ w'.frozen? ⟨rb, 1, none⟩ = false ∧ HeldN rb s at_ w w')
    ((first | (exact keepN HR.out hL hb1) | (refine ⟨?_, ?_, ?_, held_drewN HR.out hL ?_⟩; all_goals first | (simp [*]; done) | (repeat (first | exact Below.refl _ _ | refine below_drewN ?_ _ | refine Below.drew ?_)))))
    (first | (go_at_call 188; go_split_ands; (with_reducible refine Calls.mono (HP.out _ (hL.below (by repeat (first | exact Below.refl _ _ | refine below_drewN ?_ _ | refine Below.drew ?_)))) ?_); rintro e w1 ⟨n1, b1', rfl, hb1⟩))
  go_split_ands
  go_wp2_with fail
  all_goals go_quiet (fail)
  all_goals go_wp2
  all_goals go_ret2
  all_goals
    have hh : HeldN rb s (at_ : Int) w w1 := by assumption
    refine ⟨⟨_, rfl⟩, ?_, ?_⟩
    · exact grown_trans (grown_below hh.1 _) (grown_trans (grown_set _ _ _ _) (grown_below (below_drewN (Below.refl _ _) _) _))
    · have h3 := hh.2.1.set ((at_ : Int) + ((k : Int) + 1))
      rw [show ((at_ + (k + 1) : Nat) : Int) = (at_ : Int) + ((k : Int) + 1) by omega]
      exact h3.below (below_drewN (Below.refl _ _) _)

end Go.Proofs.YtbdimlppnhcicaaGreatDoor
namespace Go.Proofs.YtbdimlppnhcicaaGreatDoor
open Go.RowKit

/-- what reader.number leaves: r is what the bytes at the reader's place begin with -/
def NumPost (rb : Nat) (s : ByteArray) (r : Option (Nat × List UInt8)) (w : World) (e : Ending) (w' : World) : Prop :=
  w.grownBy w' (some rb) ∧ (∃ z, Rd rb s z w') ∧ (r = none → ∃ n : Int, e = .returned (.tuple #[.int .i64 n, .bool false])) ∧
    (∀ n rest, r = some (n, rest) → e = .returned (.tuple #[.int .i64 n, .bool true]) ∧ ∃ a : Nat, a ≤ s.size ∧ Rd rb s a w' ∧ s.data.toList.drop a = rest)
theorem NumPost.no {rb : Nat} {s : ByteArray} {z : Int} {w w' : World} {r : Option (Nat × List UInt8)} {n : Int} (hr : r = none) (hR : Rd rb s z w) (hb : Below w.heap.size w w') :
    NumPost rb s r w (.returned (.tuple #[.int .i64 n, .bool false])) w' :=
  ⟨grown_below hb _, ⟨z, hR.below hb⟩, fun _ => ⟨n, rfl⟩, fun _ _ h => (by rw [hr] at h; cases h)⟩

theorem parse_nonneg (c : UInt8) (r : List UInt8) (v : Int) (h : c.toNat ≠ 45) (hp : Lib.parseIntB 64 (c :: r) = .ok v) : 0 ≤ v := by
  simp only [Lib.parseIntB, h, false_and, if_false, not_false_eq_true, true_and] at hp
  split at hp
  · cases hp
  · cases hp
  · split at hp
    · cases hp
    · injection hp with hp; omega
theorem number_any (rb at_ : Nat) (s : ByteArray) (ec : Int) (E : UInt8) (hE : ec = (E.toNat : Int)) (hn : ¬ (48 ≤ E.toNat ∧ E.toNat ≤ 57)) (w : World) (hs : s.size ≤ 16384) (ha : at_ ≤ s.size) (hR : Rd rb s at_ w) (hL : LibOk w) :
    Calls Tryz.prog 216 #[.pointer (some ⟨rb, 0, none⟩), .int .u8 ec] w (NumPost rb s (num E (s.data.toList.drop at_)) w) := by
  have hlen : s.data.toList.length = s.size := by show s.data.toList.length = s.data.size; rw [Array.length_toList]
  have e1 : (s.extract at_ s.size).data.toList = s.data.toList.drop at_ := Lib.extract_to_end s at_
  obtain ⟨k, hk⟩ : ∃ k, Lib.indexByte (s.data.toList.drop at_) E = k := ⟨_, rfl⟩
  have hk' : Lib.indexByte (s.extract at_ s.size).data.toList E = k := by rw [e1]; exact hk
  have hge := Lib.indexByte_ge (s.data.toList.drop at_) E
  rw [hk] at hge
  have early : ∀ (e : Ending) (w' : World), num E (s.data.toList.drop at_) = none → (e = .returned (.tuple #[.int .i64 0, .bool false]) ∧ Below w.heap.size w w') → NumPost rb s (num E (s.data.toList.drop at_)) w e w' := by
    rintro e w' hnone ⟨rfl, hb⟩
    exact NumPost.no hnone hR hb
  by_cases k0 : k < 1
  · refine (number_a rb at_ s ec E hE w hs ha hR.c0 hR.c1 k hk' k0).mono fun e w' h => early e w' ?_ h
    by_cases h1 : k = -1
    · exact num_no E _ (by rw [hk, h1])
    · exact num_zero E _ hn (by rw [hk]; omega)
  · obtain ⟨d, t, hl, hd, hi⟩ := index_cut E (s.data.toList.drop at_) (by rw [hk]; omega)
    have hkd : (d.length : Int) = k := by rw [← hi, hk]
    have hlt : at_ + d.length < s.size := by
      have := congrArg List.length hl
      simp only [List.length_drop, List.length_append, List.length_cons, hlen] at this
      omega
    have hat : at_ < s.size := by omega
    have hc : s.data.toList.drop at_ = s[at_] :: s.data.toList.drop (at_ + 1) := by
      rw [List.drop_eq_getElem_cons (by omega)]; rfl
    rw [hc] at hk hl
    by_cases k1 : 19 < k
    · refine (number_b rb at_ s ec E hE w hs ha hR.c0 hR.c1 k hk' k1).mono fun e w' h => early e w' ?_ h
      rw [hc]
      by_cases h48 : s[at_] = 48
      · rw [h48] at hk ⊢; exact num_nought E _ (by omega)
      · exact num_many E _ _ h48 (by omega)
    · by_cases h48 : s[at_] = 48 ∧ 1 < k
      · refine (number_c rb at_ s ec E hE w hs ha hR.c0 hR.c1 k hk' h48.2 (by omega) hat h48.1).mono fun e w' h => early e w' ?_ h
        rw [hc, h48.1] 
        rw [h48.1] at hk
        exact num_nought E _ (by omega)
      · by_cases hd1 : (s[at_]).toNat < 48
        · refine (number_d rb at_ s ec E hE w hs ha hR.c0 hR.c1 k hk' (by omega) (by omega) hat (fun h => by rw [h] at hd1; exact absurd hd1 (by decide)) hd1).mono fun e w' h => early e w' ?_ h
          rw [hc]; exact num_first E _ _ (by omega)
        · by_cases hd2 : 57 < (s[at_]).toNat
          · refine (number_e rb at_ s ec E hE w hs ha hR.c0 hR.c1 k hk' (by omega) (by omega) hat hd2).mono fun e w' h => early e w' ?_ h
            rw [hc]; exact num_first E _ _ (by omega)
          · have hkn : k.toNat = d.length := by omega
            have e2 : (s.extract at_ (at_ + k.toNat)).data.toList = (s[at_] :: s.data.toList.drop (at_ + 1)).take d.length := by
              rw [Lib.extract_data, hc, hkn]
              congr 1; omega
            have hnum := num_parse E s[at_] (s.data.toList.drop (at_ + 1)) d.length (by omega) (by rw [hk, hkd]) (by omega) (fun h => by have : ¬ 1 < k := fun x => h48 ⟨h, x⟩; omega)
            rw [← e2] at hnum
            have late : ∀ (e : Ending) (w' : World) (z : Nat), w.grownBy w' (some rb) → Rd rb s z w' → (num E (s.data.toList.drop at_) = none ∧ (∃ n : Int, e = .returned (.tuple #[.int .i64 n, .bool false])) ∨ ∃ n, num E (s.data.toList.drop at_) = some (n, s.data.toList.drop z) ∧ z ≤ s.size ∧ e = .returned (.tuple #[.int .i64 n, .bool true])) → NumPost rb s (num E (s.data.toList.drop at_)) w e w' := by
              rintro e w' z hg hz (⟨h1, h2⟩ | ⟨n, h1, h2, h3⟩)
              · exact ⟨hg, ⟨z, hz⟩, fun _ => h2, fun _ _ h => (by rw [h1] at h; cases h)⟩
              · exact ⟨hg, ⟨z, hz⟩, fun h => (by rw [h1] at h; cases h), fun n' r' h => (by
                  rw [h1] at h; cases h; exact ⟨h3, z, h2, hz, rfl⟩)⟩
            have hdrop : (s[at_] :: s.data.toList.drop (at_ + 1)).drop (d.length + 1) = s.data.toList.drop (at_ + (d.length + 1)) := by
              rw [← hc, List.drop_drop]
            by_cases hok : ∃ v, Lib.parseIntB 64 (s.extract at_ (at_ + k.toNat)).data.toList = .ok v
            · obtain ⟨v, hv⟩ := hok
              rw [hv, hdrop, ← hc] at hnum
              have fin : ∀ (e : Ending) (w' : World), LatePost v rb s (at_ + (k.toNat + 1)) w e w' → NumPost rb s (num E (s.data.toList.drop at_)) w e w' := by
                rintro e w' ⟨rfl, hg, hz⟩
                refine late _ w' _ hg hz (.inr ⟨v.toNat, ?_, by omega, ?_⟩)
                · rw [hnum, hkn]
                · rw [Int.toNat_of_nonneg (by
                    rw [e2] at hv
                    cases hdl : d.length with
                    | zero => rw [hdl] at hkd; omega
                    | succ m => rw [hdl, List.take_succ_cons] at hv; exact parse_nonneg _ _ _ (by omega) hv)]
              by_cases h0 : s[at_] = 48
              · exact (number_ok0 rb at_ s ec E hE w hs hR hL k hk' (by omega) (by omega) hat h0 (by have : ¬ 1 < k := fun x => h48 ⟨h0, x⟩; omega) (by omega) (by omega) v hv (by omega)).mono fin
              · exact (number_ok1 rb at_ s ec E hE w hs hR hL k hk' (by omega) (by omega) hat h0 (by omega) (by omega) v hv (by omega)).mono fin
            · have hv : ∀ v, Lib.parseIntB 64 (s.extract at_ (at_ + k.toNat)).data.toList ≠ .ok v := fun v h => hok ⟨v, h⟩
              have hnone : num E (s.data.toList.drop at_) = none := by
                rw [hc, hnum]
                cases hp : Lib.parseIntB 64 (s.extract at_ (at_ + k.toNat)).data.toList with
                | ok v => exact absurd hp (hv v)
                | _ => rfl
              have fin : ∀ (e : Ending) (w' : World), LateBad rb s (at_ + (k.toNat + 1)) w e w' → NumPost rb s (num E (s.data.toList.drop at_)) w e w' := by
                rintro e w' ⟨h, hg, hz⟩
                exact late e w' _ hg hz (.inl ⟨hnone, h⟩)
              by_cases h0 : s[at_] = 48
              · exact (number_bad0 rb at_ s ec E hE w hs hR hL k hk' (by omega) (by omega) hat h0 (by have : ¬ 1 < k := fun x => h48 ⟨h0, x⟩; omega) (by omega) (by omega) hv (by omega)).mono fin
              · exact (number_bad1 rb at_ s ec E hE w hs hR hL k hk' (by omega) (by omega) hat h0 (by omega) (by omega) hv (by omega)).mono fin
end Go.Proofs.YtbdimlppnhcicaaGreatDoor
