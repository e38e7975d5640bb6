import Derived.Lib.ParseIntB
import Derived.Lib.Bytealg
import Derived.Shelf.Small.Strs
import Derived.Shelf.Strconv.Itoa0
import Derived.Shelf.Strconv.ParseIntEmpty
import Derived.Shelf.LaysM
import Derived.Shelf.Strconv.Clone
import Derived.Shelf.Strconv.SyntaxError
import Derived.Shelf.LaysC
import Derived.Shelf.Strconv.ToError
import Derived.Shelf.Strconv.Lower
import Derived.Shelf.Strconv.ParseUint10
import Derived.Shelf.Strconv.ParseUint10Empty
import Derived.Shelf.Strconv.ParseUint10Any
import Derived.Shelf.Strconv.ParseInt10
import Derived.Shelf.Strconv.RangeError
import Derived.Shelf.Strconv.ToErrorRange
import Derived.Shelf.Strconv.ParseUintEmpty
import Derived.Shelf.Strconv.ParseUint10b64
import Derived.Shelf.Strconv.ParseUint10b32
import Derived.Shelf.Strconv.ParseUint10b16
import Derived.Shelf.Strconv.ParseUint10b8
import Derived.Shelf.Strconv.ParseUint10At
import Derived.Shelf.Strconv.ParseInt10At64
import Derived.Shelf.Strconv.ParseInt10At32
import Derived.Shelf.Strconv.ParseInt10At16
import Derived.Shelf.Strconv.ParseInt10At8
import Derived.Shelf.Strconv.ParseInt10All
import Derived.Shelf.Strconv.ParseIntPublic10
import Derived.Shelf.Strconv.ErrVarParseInt
import Derived.Shelf.Strings.Search1
import Derived.WalkKit
import Derived.WalkSpells
import Derived.WalkLawsBesides
import Derived.Handy
import Derived.Lib.Hide
import Derived.Deep.QuietTactic
import Derived.BigQuiet
import Derived.Test.YtakfhoodjcfpcaaDoorRows
import Derived.Test.YtakfhoodjcfpcaaDoorProg
import Derived.Test.YtakfhoodjcfpcaaDoorTlH
import Derived.Test.YtakfhoodjcfpcaaDoorShelf
namespace Go.Proofs.YtakfhoodjcfpcaaDoor
set_option linter.unusedVariables false
open Go.RowKit

theorem idx78 (t : ByteArray) (ec k : Int) (E : UInt8) (hE : ec = (E.toNat : Int)) (hk : Lib.indexByte t.data.toList E = k) (w : World) :
    Calls Tryd.prog 81 #[.string t, .int .u8 ec] w fun e w' => e = .returned (.int .i64 k) ∧ w' = w := by
  have h := Tryd.strings_IndexByte t ec w
  have e1 : ec.toNat.toUInt8 = E := by rw [hE]; simp
  rw [e1, hk] at h
  exact h
theorem below_drewN {B : Nat} {a w : World} (h : Below B a w) (n : Nat) : Below B a (w.drewN n) := by
  induction n with
  | zero => exact h
  | succ n ih => exact ih.drew
theorem decB (p : Prop) [Decidable p] (h : p) : decide p = true := by simp [h]
theorem decN (p : Prop) [Decidable p] (h : ¬ p) : decide p = false := by simp [h]

set_option maxRecDepth 100000 in
set_option maxHeartbeats 1000000 in
theorem number_a (rb at_ : Nat) (s : ByteArray) (ec : Int) (E : UInt8) (hE : ec = (E.toNat : Int)) (w : World) (hs : s.size ≤ 16384) (ha : at_ ≤ s.size)
    (c0 : w.cell? ⟨rb, 0, none⟩ = some (.string s)) (c1 : w.cell? ⟨rb, 1, none⟩ = some (.int .i64 at_))
    (k : Int) (hk : Lib.indexByte (s.extract at_ s.size).data.toList E = k) (k0 : k < 1) :
    Calls Tryd.prog 79 #[.pointer (some ⟨rb, 0, none⟩), .int .u8 ec] w fun e' w' => e' = .returned (.tuple #[.int .i64 0, .bool false]) ∧ Below w.heap.size w w' := by
  have HI : Hid (∀ w, Calls Tryd.prog 81 #[.string (s.extract at_ s.size), .int .u8 ec] w fun e w' => e = .returned (.int .i64 k) ∧ w' = w) := fun w => idx78 _ ec k E hE hk w
  clear hk hE
  have q1 := decB (k < 1) k0
  go_enter Tryd.func79, Tryd.ntmps79
  go_wp2_with fail
  go_quiet ((go_at_call 81; exact Calls.quiet_of_same (HI.out _)))
  go_wp2_with fail
  go_quiet (fail)
  go_wp2
  go_ret2
  exact ⟨rfl, by (repeat' (first | (with_reducible exact Below.refl _ _) | (with_reducible refine Below.alloc ?_ ?_ _) | (with_reducible refine Below.drew ?_) | (with_reducible refine Below.setCell ?_ ?_ _) | (with_reducible refine below_drewN ?_ _) | (refine Below.trans ?_ (Below.mono (by assumption) ?_)) | go_size))⟩

set_option maxRecDepth 100000 in
set_option maxHeartbeats 1000000 in
theorem number_b (rb at_ : Nat) (s : ByteArray) (ec : Int) (E : UInt8) (hE : ec = (E.toNat : Int)) (w : World) (hs : s.size ≤ 16384) (ha : at_ ≤ s.size)
    (c0 : w.cell? ⟨rb, 0, none⟩ = some (.string s)) (c1 : w.cell? ⟨rb, 1, none⟩ = some (.int .i64 at_))
    (k : Int) (hk : Lib.indexByte (s.extract at_ s.size).data.toList E = k) (k0 : 19 < k) :
    Calls Tryd.prog 79 #[.pointer (some ⟨rb, 0, none⟩), .int .u8 ec] w fun e' w' => e' = .returned (.tuple #[.int .i64 0, .bool false]) ∧ Below w.heap.size w w' := by
  have HI : Hid (∀ w, Calls Tryd.prog 81 #[.string (s.extract at_ s.size), .int .u8 ec] w fun e w' => e = .returned (.int .i64 k) ∧ w' = w) := fun w => idx78 _ ec k E hE hk w
  clear hk hE
  have q1 := decN (k < 1) (by omega)
  have q2 := decB (19 < k) k0
  go_enter Tryd.func79, Tryd.ntmps79
  go_wp2_with fail
  go_quiet ((go_at_call 81; exact Calls.quiet_of_same (HI.out _)))
  go_wp2_with fail
  go_quiet (fail)
  go_wp2
  go_ret2
  exact ⟨rfl, by (repeat' (first | (with_reducible exact Below.refl _ _) | (with_reducible refine Below.alloc ?_ ?_ _) | (with_reducible refine Below.drew ?_) | (with_reducible refine Below.setCell ?_ ?_ _) | (with_reducible refine below_drewN ?_ _) | (refine Below.trans ?_ (Below.mono (by assumption) ?_)) | go_size))⟩

set_option maxRecDepth 100000 in
set_option maxHeartbeats 1000000 in
theorem number_c (rb at_ : Nat) (s : ByteArray) (ec : Int) (E : UInt8) (hE : ec = (E.toNat : Int)) (w : World) (hs : s.size ≤ 16384) (ha : at_ ≤ s.size)
    (c0 : w.cell? ⟨rb, 0, none⟩ = some (.string s)) (c1 : w.cell? ⟨rb, 1, none⟩ = some (.int .i64 at_))
    (k : Int) (hk : Lib.indexByte (s.extract at_ s.size).data.toList E = k) (k0 : 1 < k) (k1 : k ≤ 19) (hlt : at_ < s.size) (h48 : s[at_] = 48) :
    Calls Tryd.prog 79 #[.pointer (some ⟨rb, 0, none⟩), .int .u8 ec] w fun e' w' => e' = .returned (.tuple #[.int .i64 0, .bool false]) ∧ Below w.heap.size w w' := by
  have HI : Hid (∀ w, Calls Tryd.prog 81 #[.string (s.extract at_ s.size), .int .u8 ec] w fun e w' => e = .returned (.int .i64 k) ∧ w' = w) := fun w => idx78 _ ec k E hE hk w
  clear hk hE
  have q1 := decN (k < 1) (by omega)
  have q2 := decN (19 < k) (by omega)
  have q3 := decB (1 < k) k0
  have q : (((s[at_]).toNat : Int) == 48) = true := by rw [h48]; rfl
  clear h48
  go_enter Tryd.func79, Tryd.ntmps79
  go_wp2_with fail
  go_quiet ((go_at_call 81; exact Calls.quiet_of_same (HI.out _)))
  go_wp2_with fail
  go_quiet (fail)
  go_wp2
  go_ret2
  exact ⟨rfl, by (repeat' (first | (with_reducible exact Below.refl _ _) | (with_reducible refine Below.alloc ?_ ?_ _) | (with_reducible refine Below.drew ?_) | (with_reducible refine Below.setCell ?_ ?_ _) | (with_reducible refine below_drewN ?_ _) | (refine Below.trans ?_ (Below.mono (by assumption) ?_)) | go_size))⟩

set_option maxRecDepth 100000 in
set_option maxHeartbeats 1000000 in
theorem number_d (rb at_ : Nat) (s : ByteArray) (ec : Int) (E : UInt8) (hE : ec = (E.toNat : Int)) (w : World) (hs : s.size ≤ 16384) (ha : at_ ≤ s.size)
    (c0 : w.cell? ⟨rb, 0, none⟩ = some (.string s)) (c1 : w.cell? ⟨rb, 1, none⟩ = some (.int .i64 at_))
    (k : Int) (hk : Lib.indexByte (s.extract at_ s.size).data.toList E = k) (k0 : 1 ≤ k) (k1 : k ≤ 19) (hlt : at_ < s.size) (h48 : ¬ s[at_] = 48) (hd : (s[at_]).toNat < 48) :
    Calls Tryd.prog 79 #[.pointer (some ⟨rb, 0, none⟩), .int .u8 ec] w fun e' w' => e' = .returned (.tuple #[.int .i64 0, .bool false]) ∧ Below w.heap.size w w' := by
  have HI : Hid (∀ w, Calls Tryd.prog 81 #[.string (s.extract at_ s.size), .int .u8 ec] w fun e w' => e = .returned (.int .i64 k) ∧ w' = w) := fun w => idx78 _ ec k E hE hk w
  clear hk hE
  have q1 := decN (k < 1) (by omega)
  have q2 := decN (19 < k) (by omega)
  have q : (((s[at_]).toNat : Int) == 48) = false := by simp; omega
  have q4 := decB (((s[at_]).toNat : Int) < 48) (by omega)
  clear h48 hd
  go_enter Tryd.func79, Tryd.ntmps79
  go_wp2_with fail
  go_quiet ((go_at_call 81; exact Calls.quiet_of_same (HI.out _)))
  go_wp2_with fail
  go_quiet (fail)
  go_wp2
  go_ret2
  exact ⟨rfl, by (repeat' (first | (with_reducible exact Below.refl _ _) | (with_reducible refine Below.alloc ?_ ?_ _) | (with_reducible refine Below.drew ?_) | (with_reducible refine Below.setCell ?_ ?_ _) | (with_reducible refine below_drewN ?_ _) | (refine Below.trans ?_ (Below.mono (by assumption) ?_)) | go_size))⟩

set_option maxRecDepth 100000 in
set_option maxHeartbeats 1000000 in
theorem number_e (rb at_ : Nat) (s : ByteArray) (ec : Int) (E : UInt8) (hE : ec = (E.toNat : Int)) (w : World) (hs : s.size ≤ 16384) (ha : at_ ≤ s.size)
    (c0 : w.cell? ⟨rb, 0, none⟩ = some (.string s)) (c1 : w.cell? ⟨rb, 1, none⟩ = some (.int .i64 at_))
    (k : Int) (hk : Lib.indexByte (s.extract at_ s.size).data.toList E = k) (k0 : 1 ≤ k) (k1 : k ≤ 19) (hlt : at_ < s.size) (hd : 57 < (s[at_]).toNat) :
    Calls Tryd.prog 79 #[.pointer (some ⟨rb, 0, none⟩), .int .u8 ec] w fun e' w' => e' = .returned (.tuple #[.int .i64 0, .bool false]) ∧ Below w.heap.size w w' := by
  have HI : Hid (∀ w, Calls Tryd.prog 81 #[.string (s.extract at_ s.size), .int .u8 ec] w fun e w' => e = .returned (.int .i64 k) ∧ w' = w) := fun w => idx78 _ ec k E hE hk w
  clear hk hE
  have q1 := decN (k < 1) (by omega)
  have q2 := decN (19 < k) (by omega)
  have q : (((s[at_]).toNat : Int) == 48) = false := by simp; omega
  have q4 := decN (((s[at_]).toNat : Int) < 48) (by omega)
  have q5 := decB (57 < ((s[at_]).toNat : Int)) (by omega)
  clear hd
  go_enter Tryd.func79, Tryd.ntmps79
  go_wp2_with fail
  go_quiet ((go_at_call 81; exact Calls.quiet_of_same (HI.out _)))
  go_wp2_with fail
  go_quiet (fail)
  go_wp2
  go_ret2
  exact ⟨rfl, by (repeat' (first | (with_reducible exact Below.refl _ _) | (with_reducible refine Below.alloc ?_ ?_ _) | (with_reducible refine Below.drew ?_) | (with_reducible refine Below.setCell ?_ ?_ _) | (with_reducible refine below_drewN ?_ _) | (refine Below.trans ?_ (Below.mono (by assumption) ?_)) | go_size))⟩

end Go.Proofs.YtakfhoodjcfpcaaDoor
