import Derived.Lib.ParseIntB
import Derived.Lib.Bytealg
import Derived.Shelf.Small.Strs
import Derived.Shelf.Strconv.Itoa0
import Derived.Shelf.Strconv.ParseIntEmpty
import Derived.Shelf.LaysM
import Derived.Shelf.Strconv.Clone
import Derived.Shelf.Strconv.SyntaxError
import Derived.Shelf.LaysC
import Derived.Shelf.Strconv.ToError
import Derived.Shelf.Strconv.Lower
import Derived.Shelf.Strconv.ParseUint10
import Derived.Shelf.Strconv.ParseUint10Empty
import Derived.Shelf.Strconv.ParseUint10Any
import Derived.Shelf.Strconv.ParseInt10
import Derived.Shelf.Strconv.RangeError
import Derived.Shelf.Strconv.ToErrorRange
import Derived.Shelf.Strconv.ParseUintEmpty
import Derived.Shelf.Strconv.ParseUint10b64
import Derived.Shelf.Strconv.ParseUint10b32
import Derived.Shelf.Strconv.ParseUint10b16
import Derived.Shelf.Strconv.ParseUint10b8
import Derived.Shelf.Strconv.ParseUint10At
import Derived.Shelf.Strconv.ParseInt10At64
import Derived.Shelf.Strconv.ParseInt10At32
import Derived.Shelf.Strconv.ParseInt10At16
import Derived.Shelf.Strconv.ParseInt10At8
import Derived.Shelf.Strconv.ParseInt10All
import Derived.Shelf.Strconv.ParseIntPublic10
import Derived.Shelf.Strconv.ErrVarParseInt
import Derived.Shelf.Strings.Search1
import Derived.WalkKit
import Derived.WalkSpells
import Derived.WalkLawsBesides
import Derived.Handy
import Derived.Lib.Hide
import Derived.Deep.QuietTactic
import Derived.BigQuiet
import Derived.Deep.RegionHeld3
import Derived.Test.YtakfhoodjcfpcaaDoorRows
import Derived.Test.YtakfhoodjcfpcaaDoorProg
import Derived.Test.YtakfhoodjcfpcaaDoorTlF
import Derived.Test.YtakfhoodjcfpcaaDoorTlG
import Derived.Test.YtakfhoodjcfpcaaDoorTlH
import Derived.Test.YtakfhoodjcfpcaaDoorTlI
import Derived.Test.YtakfhoodjcfpcaaDoorTlU
import Derived.Test.YtakfhoodjcfpcaaDoorShelf
import Derived.Test.YtakfhoodjcfpcaaDoorNumA
namespace Go.Proofs.YtakfhoodjcfpcaaDoor
open Go.RowKit


/-- a reader lies in block rb: its text and its place -/
def Rd (rb : Nat) (s : ByteArray) (z : Int) (w : World) : Prop := w.heap[rb]? = some (.cells #[.string s, .int .i64 z] 116 (0, 0))
theorem Rd.c0 {rb : Nat} {s : ByteArray} {z : Int} {w : World} (h : Rd rb s z w) : w.cell? ⟨rb, 0, none⟩ = some (.string s) := by simp [World.cell?, show w.heap[rb]? = _ from h]
theorem Rd.c1 {rb : Nat} {s : ByteArray} {z : Int} {w : World} (h : Rd rb s z w) : w.cell? ⟨rb, 1, none⟩ = some (.int .i64 z) := by simp [World.cell?, show w.heap[rb]? = _ from h]
theorem Rd.f {rb : Nat} {s : ByteArray} {z : Int} {w : World} (h : Rd rb s z w) (o : Nat) : w.frozen? ⟨rb, o, none⟩ = false := by simp [World.frozen?, show w.heap[rb]? = _ from h]
theorem Rd.lt {rb : Nat} {s : ByteArray} {z : Int} {w : World} (h : Rd rb s z w) : rb < w.heap.size := by
  rcases Nat.lt_or_ge rb w.heap.size with g | g
  · exact g
  · rw [Rd, Array.getElem?_eq_none g] at h; cases h
theorem Rd.below {rb : Nat} {s : ByteArray} {z : Int} {w w' : World} (h : Rd rb s z w) (hb : Below w.heap.size w w') : Rd rb s z w' := by
  rw [Rd, hb.block rb h.lt]; exact h
theorem Rd.set {rb : Nat} {s : ByteArray} {z : Int} {w : World} (h : Rd rb s z w) (z' : Int) : Rd rb s z' (w.setCell ⟨rb, 1, none⟩ (.int .i64 z')) := by
  rw [Rd] at h ⊢
  simp [World.setCell, Array.getElem?_modify, h]

/-- the library's two error variables hold errors, or nothing -/
def LibOk (w : World) : Prop := ∀ g, g = 1 ∨ g = 2 → ∃ ev, w.cell? ⟨g, 0, none⟩ = some ev ∧ (ev = .nilIface ∨ ∃ te pe, ev = .iface te pe)
theorem LibOk.below {w w' : World} (h : LibOk w) (hb : Below w.heap.size w w') : LibOk w' := fun g hg => by
  obtain ⟨ev, h1, h2⟩ := h g hg
  exact ⟨ev, by rw [hb.cell (p := ⟨g, 0, none⟩) (World.block_lt_of_cell? w _ h1)]; exact h1, h2⟩

theorem grown_below {w w' : World} (h : Below w.heap.size w w') (row : Option Nat) : w.grownBy w' row := ⟨h.os, h.tape, h.output, h.size, fun k hk _ => h.block k hk⟩
theorem grown_trans {a b c : World} {row : Option Nat} (h : a.grownBy b row) (k : b.grownBy c row) : a.grownBy c row :=
  ⟨k.os.trans h.os, k.tape.trans h.tape, k.output.trans h.output, Nat.le_trans h.size k.size, fun i hi hr => (k.block i (Nat.lt_of_lt_of_le hi h.size) hr).trans (h.block i hi hr)⟩
theorem grown_set (w : World) (rb o : Nat) (v : Value) : w.grownBy (w.setCell ⟨rb, o, none⟩ v) (some rb) :=
  ⟨rfl, rfl, rfl, by simp [World.setCell], fun k _ hr => Below.heap_setCell _ _ _ _ (fun e => hr (by simp [e]))⟩
theorem LibOk.grown {w w' : World} {rb : Nat} (h : LibOk w) (hb : w.grownBy w' (some rb)) (hr : 3 ≤ rb) : LibOk w' := fun g hg => by
  obtain ⟨ev, h1, h2⟩ := h g hg
  refine ⟨ev, ?_, h2⟩
  rw [World.cell?_of_block (hb.block g (World.block_lt_of_cell? w ⟨g, 0, none⟩ h1) (fun e => by cases e; omega))]
  exact h1

theorem drewN_same (w : World) (n : Nat) : Below w.heap.size w (w.drewN n) ∧ (w.drewN n).heap = w.heap := by
  induction n with
  | zero => exact ⟨Below.refl _ _, rfl⟩
  | succ n ih => exact ⟨ih.1.drew, ih.2⟩
def HeldN (rb : Nat) (s : ByteArray) (z : Int) (W w : World) : Prop := Below W.heap.size W w ∧ Rd rb s z w ∧ LibOk w
theorem keepN {W b : World} {n rb : Nat} {s : ByteArray} {z : Int} (h : Rd rb s z W) (hl : LibOk W) (hb : Below (W.drewN n).heap.size (W.drewN n) b) :
    b.cell? ⟨rb, 0, none⟩ = some (.string s) ∧ b.cell? ⟨rb, 1, none⟩ = some (.int .i64 z) ∧ b.frozen? ⟨rb, 1, none⟩ = false ∧ HeldN rb s z W b := by
  have hk := (drewN_same W n)
  have hb' : Below W.heap.size W b := hk.1.trans (hb.mono (by rw [hk.2]; exact Nat.le_refl _))
  exact ⟨(h.below hb').c0, (h.below hb').c1, (h.below hb').f 1, hb', h.below hb', hl.below hb'⟩
theorem below_freeze {B : Nat} {a w : World} (h : Below B a w) (p : Addr) (n : Nat) (hp : B ≤ p.block) : Below B a (w.freeze p n) := by
  unfold World.freeze
  split
  · exact h
  · exact h.trans ⟨rfl, rfl, rfl, by simp, fun k hk => by
      show (w.heap.modify p.block _)[k]? = _
      rw [Array.getElem?_modify, if_neg (by omega)]⟩
theorem bytesWorld_below (w : World) (t : Nat) (x : ByteArray) : Below w.heap.size w (Lib.bytesWorld w t x) := by
  unfold Lib.bytesWorld
  exact below_freeze (((Below.refl _ _).drew).alloc (Nat.le_refl _) _) _ _ (Nat.le_refl _)
theorem drewN_size (w : World) (n : Nat) : (w.drewN n).heap.size = w.heap.size := by rw [(drewN_same w n).2]
theorem par79_ok (t : ByteArray) (v : Int) (h : Lib.parseIntB 64 t.data.toList = .ok v) (hs : t.size ≤ 16384) (w : World) :
    Calls Tryd.prog 82 #[.string t, .int .i64 10, .int .i64 64] w fun e w' => e = .returned (.tuple #[.int .i64 v, .nilIface]) ∧ Below w.heap.size w w' := by
  refine (Tryd.strconv_ParseInt_10_at64_ok t (by omega) v h w).mono ?_
  rintro e w' ⟨rfl, rfl | ⟨x, rfl⟩⟩
  · exact ⟨rfl, Below.refl _ _⟩
  · exact ⟨rfl, bytesWorld_below _ _ _⟩
def BadPost (w : World) (e : Ending) (w' : World) : Prop := ∃ (n : Int) (b : Nat), e = .returned (.tuple #[.int .i64 n, .iface 140 (.pointer (some ⟨b, 0, none⟩))]) ∧ Below w.heap.size w w'
theorem par79_bad (t : ByteArray) (h : ∀ v, Lib.parseIntB 64 t.data.toList ≠ .ok v) (hs : t.size ≤ 16384) (w : World) (hl : LibOk w) :
    Calls Tryd.prog 82 #[.string t, .int .i64 10, .int .i64 64] w (BadPost w) := by
  cases hp : Lib.parseIntB 64 t.data.toList with
  | ok v => exact absurd hp (h v)
  | range =>
    obtain ⟨ev, h1, h2⟩ := hl 2 (.inr rfl)
    refine (Tryd.strconv_ParseInt_10_at64_range t (by omega) hp ev w h1 h2).mono ?_
    rintro e w' ⟨b, rfl, _, _, hb⟩
    exact ⟨_, b, rfl, hb⟩
  | _ =>
    obtain ⟨ev, h1, h2⟩ := hl 1 (.inl rfl)
    refine (Tryd.strconv_ParseInt_10_at64_syntax t (by omega) hp ev w h1 h2).mono ?_
    rintro e w' ⟨b, rfl, _, _, hb⟩
    exact ⟨_, b, rfl, hb⟩

def LatePost (v : Int) (rb : Nat) (s : ByteArray) (z : Nat) (w : World) (e : Ending) (w' : World) : Prop := e = .returned (.tuple #[.int .i64 v, .bool true]) ∧ w.grownBy w' (some rb) ∧ Rd rb s z w'
def LateBad (rb : Nat) (s : ByteArray) (z : Nat) (w : World) (e : Ending) (w' : World) : Prop := (∃ n : Int, e = .returned (.tuple #[.int .i64 n, .bool false])) ∧ w.grownBy w' (some rb) ∧ Rd rb s z w'
theorem held_drewN {rb : Nat} {s : ByteArray} {z : Int} {W w : World} (h : Rd rb s z W) (hl : LibOk W) (hd : Below W.heap.size W w) : HeldN rb s z W w := ⟨hd, h.below hd, hl.below hd⟩
set_option maxRecDepth 100000 in
set_option maxHeartbeats 1000000 in
theorem number_ok0 (rb at_ : Nat) (s : ByteArray) (ec : Int) (E : UInt8) (hE : ec = (E.toNat : Int)) (w : World) (hs : s.size ≤ 16384) (hR : Rd rb s at_ w) (hL : LibOk w)
    (k : Int) (hk : Lib.indexByte (s.extract at_ s.size).data.toList E = k) (k0 : 1 ≤ k) (k1 : k ≤ 19) (hlt : at_ < s.size) (h : s[at_] = 48) (hk1 : k = 1) (hd : 48 ≤ (s[at_]).toNat) (hd' : (s[at_]).toNat ≤ 57)
    (v : Int) (hp : Lib.parseIntB 64 (s.extract at_ (at_ + k.toNat)).data.toList = .ok v) (hk2 : at_ + k.toNat < s.size) :
    Calls Tryd.prog 79 #[.pointer (some ⟨rb, 0, none⟩), .int .u8 ec] w (LatePost v rb s (at_ + (k.toNat + 1)) w) := by
  have HI : Hid (∀ w, Calls Tryd.prog 81 #[.string (s.extract at_ s.size), .int .u8 ec] w fun e w' => e = .returned (.int .i64 k) ∧ w' = w) := fun w => idx78 _ ec k E hE hk w
  clear hk hE
  have c0 := hR.c0
  have c1 := hR.c1
  have hf := hR.f 1
  have HR := Lib.hid hR; clear hR
  obtain ⟨k, rfl⟩ := Int.eq_ofNat_of_zero_le (by omega : 0 ≤ k)
  rw [Int.toNat_natCast] at hp hk2 ⊢
  have HP := Lib.hid (fun w => par79_ok _ v hp (by simp; omega) w); clear hp
  have q1 := decN ((k : Int) < 1) (by omega)
  have q2 := decN (19 < (k : Int)) (by omega)
  have q4 := decN (((s[at_]).toNat : Int) < 48) (by omega)
  have q5 := decN (57 < ((s[at_]).toNat : Int)) (by omega)
  have q3 := decN (1 < (k : Int)) (by omega)
  have q : (((s[at_]).toNat : Int) == 48) = true := by rw [h]; rfl
  clear hd hd' h hk1
  go_enter Tryd.func79, Tryd.ntmps79
  go_wp2_with fail
  go_quiet ((go_at_call 81; exact Calls.quiet_of_same (HI.out _)))
  go_wp2_with fail
  go_quiet (fail)
  go_wp2_with fail
  have b1 : (0 : Int) ≤ (at_ : Int) := by omega
  have b2 : (at_ : Int) + (k : Int) ≤ (s.size : Int) := by omega
  have b3 : IntKind.i64.wrap ((at_ : Int) + (k : Int)) = (at_ : Int) + (k : Int) := IntWalk.i64_in _ (by omega)
  have b4 : ((at_ : Int) + (k : Int)).toNat = at_ + k := by omega
  have b5 : (at_ : Int) ≤ (at_ : Int) + (k : Int) := by omega
  have b6 : at_ ≤ at_ + k := by omega
  have b7 : at_ + k ≤ s.size := by omega
  have b8 : (0 : Int) ≤ (at_ : Int) + (k : Int) := by omega
  go_region_held3 (fun w' => w'.cell? ⟨rb, 0, none⟩ = some (.string s) ∧ w'.cell? ⟨rb, 1, none⟩ = some (.int .i64 at_) ∧ w'.frozen? ⟨rb, 1, none⟩ = false ∧ HeldN rb s at_ w w')
    ((first | (exact keepN HR.out hL hb1) | (refine ⟨?_, ?_, ?_, held_drewN HR.out hL ?_⟩; all_goals first | (simp [*]; done) | (repeat (first | exact Below.refl _ _ | refine below_drewN ?_ _ | refine Below.drew ?_)))))
    (first | (go_at_call 82; (with_reducible refine Calls.mono (HP.out _) ?_); rintro e w1 ⟨rfl, hb1⟩))
  go_split_ands
  go_wp2_with fail
  all_goals go_quiet (fail)
  all_goals go_wp2
  all_goals go_ret2
  all_goals
    have hh : HeldN rb s (at_ : Int) w w1 := by assumption
    refine ⟨rfl, ?_, ?_⟩
    · exact grown_trans (grown_below hh.1 _) (grown_trans (grown_set _ _ _ _) (grown_below (below_drewN (Below.refl _ _) _) _))
    · have h3 := hh.2.1.set ((at_ : Int) + ((k : Int) + 1))
      rw [show ((at_ + (k + 1) : Nat) : Int) = (at_ : Int) + ((k : Int) + 1) by omega]
      exact h3.below (below_drewN (Below.refl _ _) _)

set_option maxRecDepth 100000 in
set_option maxHeartbeats 1000000 in
theorem number_ok1 (rb at_ : Nat) (s : ByteArray) (ec : Int) (E : UInt8) (hE : ec = (E.toNat : Int)) (w : World) (hs : s.size ≤ 16384) (hR : Rd rb s at_ w) (hL : LibOk w)
    (k : Int) (hk : Lib.indexByte (s.extract at_ s.size).data.toList E = k) (k0 : 1 ≤ k) (k1 : k ≤ 19) (hlt : at_ < s.size) (h : ¬ s[at_] = 48) (hd : 48 ≤ (s[at_]).toNat) (hd' : (s[at_]).toNat ≤ 57)
    (v : Int) (hp : Lib.parseIntB 64 (s.extract at_ (at_ + k.toNat)).data.toList = .ok v) (hk2 : at_ + k.toNat < s.size) :
    Calls Tryd.prog 79 #[.pointer (some ⟨rb, 0, none⟩), .int .u8 ec] w (LatePost v rb s (at_ + (k.toNat + 1)) w) := by
  have HI : Hid (∀ w, Calls Tryd.prog 81 #[.string (s.extract at_ s.size), .int .u8 ec] w fun e w' => e = .returned (.int .i64 k) ∧ w' = w) := fun w => idx78 _ ec k E hE hk w
  clear hk hE
  have c0 := hR.c0
  have c1 := hR.c1
  have hf := hR.f 1
  have HR := Lib.hid hR; clear hR
  obtain ⟨k, rfl⟩ := Int.eq_ofNat_of_zero_le (by omega : 0 ≤ k)
  rw [Int.toNat_natCast] at hp hk2 ⊢
  have HP := Lib.hid (fun w => par79_ok _ v hp (by simp; omega) w); clear hp
  have q1 := decN ((k : Int) < 1) (by omega)
  have q2 := decN (19 < (k : Int)) (by omega)
  have q4 := decN (((s[at_]).toNat : Int) < 48) (by omega)
  have q5 := decN (57 < ((s[at_]).toNat : Int)) (by omega)
  have q : (((s[at_]).toNat : Int) == 48) = false := by
    simp only [beq_eq_false_iff_ne, ne_eq]; intro h'; exact h (UInt8.toNat_inj.1 (by simpa using (by omega : (s[at_]).toNat = 48)))
  clear hd hd' h
  go_enter Tryd.func79, Tryd.ntmps79
  go_wp2_with fail
  go_quiet ((go_at_call 81; exact Calls.quiet_of_same (HI.out _)))
  go_wp2_with fail
  go_quiet (fail)
  go_wp2_with fail
  have b1 : (0 : Int) ≤ (at_ : Int) := by omega
  have b2 : (at_ : Int) + (k : Int) ≤ (s.size : Int) := by omega
  have b3 : IntKind.i64.wrap ((at_ : Int) + (k : Int)) = (at_ : Int) + (k : Int) := IntWalk.i64_in _ (by omega)
  have b4 : ((at_ : Int) + (k : Int)).toNat = at_ + k := by omega
  have b5 : (at_ : Int) ≤ (at_ : Int) + (k : Int) := by omega
  have b6 : at_ ≤ at_ + k := by omega
  have b7 : at_ + k ≤ s.size := by omega
  have b8 : (0 : Int) ≤ (at_ : Int) + (k : Int) := by omega
  go_region_held3 (fun w' => w'.cell? ⟨rb, 0, none⟩ = some (.string s) ∧ w'.cell? ⟨rb, 1, none⟩ = some (.int .i64 at_) ∧ w'.frozen? ⟨rb, 1, none⟩ = false ∧ HeldN rb s at_ w w')
    ((first | (exact keepN HR.out hL hb1) | (refine ⟨?_, ?_, ?_, held_drewN HR.out hL ?_⟩; all_goals first | (simp [*]; done) | (repeat (first | exact Below.refl _ _ | refine below_drewN ?_ _ | refine Below.drew ?_)))))
    (first | (go_at_call 82; (with_reducible refine Calls.mono (HP.out _) ?_); rintro e w1 ⟨rfl, hb1⟩))
  go_split_ands
  go_wp2_with fail
  all_goals go_quiet (fail)
  all_goals go_wp2
  all_goals go_ret2
  all_goals
    have hh : HeldN rb s (at_ : Int) w w1 := by assumption
    refine ⟨rfl, ?_, ?_⟩
    · exact grown_trans (grown_below hh.1 _) (grown_trans (grown_set _ _ _ _) (grown_below (below_drewN (Below.refl _ _) _) _))
    · have h3 := hh.2.1.set ((at_ : Int) + ((k : Int) + 1))
      rw [show ((at_ + (k + 1) : Nat) : Int) = (at_ : Int) + ((k : Int) + 1) by omega]
      exact h3.below (below_drewN (Below.refl _ _) _)

set_option maxRecDepth 100000 in
set_option maxHeartbeats 1000000 in
theorem number_bad0 (rb at_ : Nat) (s : ByteArray) (ec : Int) (E : UInt8) (hE : ec = (E.toNat : Int)) (w : World) (hs : s.size ≤ 16384) (hR : Rd rb s at_ w) (hL : LibOk w)
    (k : Int) (hk : Lib.indexByte (s.extract at_ s.size).data.toList E = k) (k0 : 1 ≤ k) (k1 : k ≤ 19) (hlt : at_ < s.size) (h : s[at_] = 48) (hk1 : k = 1) (hd : 48 ≤ (s[at_]).toNat) (hd' : (s[at_]).toNat ≤ 57)
    (hp : ∀ v, Lib.parseIntB 64 (s.extract at_ (at_ + k.toNat)).data.toList ≠ .ok v) (hk2 : at_ + k.toNat < s.size) :
    Calls Tryd.prog 79 #[.pointer (some ⟨rb, 0, none⟩), .int .u8 ec] w (LateBad rb s (at_ + (k.toNat + 1)) w) := by
  have HI : Hid (∀ w, Calls Tryd.prog 81 #[.string (s.extract at_ s.size), .int .u8 ec] w fun e w' => e = .returned (.int .i64 k) ∧ w' = w) := fun w => idx78 _ ec k E hE hk w
  clear hk hE
  have c0 := hR.c0
  have c1 := hR.c1
  have hf := hR.f 1
  have HR := Lib.hid hR; clear hR
  obtain ⟨k, rfl⟩ := Int.eq_ofNat_of_zero_le (by omega : 0 ≤ k)
  rw [Int.toNat_natCast] at hp hk2 ⊢
  have HP := Lib.hid (fun w hl => par79_bad _ hp (by simp; omega) w hl); clear hp
  have q1 := decN ((k : Int) < 1) (by omega)
  have q2 := decN (19 < (k : Int)) (by omega)
  have q4 := decN (((s[at_]).toNat : Int) < 48) (by omega)
  have q5 := decN (57 < ((s[at_]).toNat : Int)) (by omega)
  have q3 := decN (1 < (k : Int)) (by omega)
  have q : (((s[at_]).toNat : Int) == 48) = true := by rw [h]; rfl
  clear hd hd' h hk1
  go_enter Tryd.func79, Tryd.ntmps79
  go_wp2_with fail
  go_quiet ((go_at_call 81; exact Calls.quiet_of_same (HI.out _)))
  go_wp2_with fail
  go_quiet (fail)
  go_wp2_with fail
  have b1 : (0 : Int) ≤ (at_ : Int) := by omega
  have b2 : (at_ : Int) + (k : Int) ≤ (s.size : Int) := by omega
  have b3 : IntKind.i64.wrap ((at_ : Int) + (k : Int)) = (at_ : Int) + (k : Int) := IntWalk.i64_in _ (by omega)
  have b4 : ((at_ : Int) + (k : Int)).toNat = at_ + k := by omega
  have b5 : (at_ : Int) ≤ (at_ : Int) + (k : Int) := by omega
  have b6 : at_ ≤ at_ + k := by omega
  have b7 : at_ + k ≤ s.size := by omega
  have b8 : (0 : Int) ≤ (at_ : Int) + (k : Int) := by omega
  go_region_held3 (fun w' => w'.cell? ⟨rb, 0, none⟩ = some (.string s) ∧ w'.cell? ⟨rb, 1, none⟩ = some (.int .i64 at_) ∧ w'.frozen? ⟨rb, 1, none⟩ = false ∧ HeldN rb s at_ w w')
    ((first | (exact keepN HR.out hL hb1) | (refine ⟨?_, ?_, ?_, held_drewN HR.out hL ?_⟩; all_goals first | (simp [*]; done) | (repeat (first | exact Below.refl _ _ | refine below_drewN ?_ _ | refine Below.drew ?_)))))
    (first | (go_at_call 82; go_split_ands; (with_reducible refine Calls.mono (HP.out _ (hL.below (by repeat (first | exact Below.refl _ _ | refine below_drewN ?_ _ | refine Below.drew ?_)))) ?_); rintro e w1 ⟨n1, b1', rfl, hb1⟩))
  go_split_ands
  go_wp2_with fail
  all_goals go_quiet (fail)
  all_goals go_wp2
  all_goals go_ret2
  all_goals
    have hh : HeldN rb s (at_ : Int) w w1 := by assumption
    refine ⟨⟨_, rfl⟩, ?_, ?_⟩
    · exact grown_trans (grown_below hh.1 _) (grown_trans (grown_set _ _ _ _) (grown_below (below_drewN (Below.refl _ _) _) _))
    · have h3 := hh.2.1.set ((at_ : Int) + ((k : Int) + 1))
      rw [show ((at_ + (k + 1) : Nat) : Int) = (at_ : Int) + ((k : Int) + 1) by omega]
      exact h3.below (below_drewN (Below.refl _ _) _)

set_option maxRecDepth 100000 in
set_option maxHeartbeats 1000000 in
theorem number_bad1 (rb at_ : Nat) (s : ByteArray) (ec : Int) (E : UInt8) (hE : ec = (E.toNat : Int)) (w : World) (hs : s.size ≤ 16384) (hR : Rd rb s at_ w) (hL : LibOk w)
    (k : Int) (hk : Lib.indexByte (s.extract at_ s.size).data.toList E = k) (k0 : 1 ≤ k) (k1 : k ≤ 19) (hlt : at_ < s.size) (h : ¬ s[at_] = 48) (hd : 48 ≤ (s[at_]).toNat) (hd' : (s[at_]).toNat ≤ 57)
    (hp : ∀ v, Lib.parseIntB 64 (s.extract at_ (at_ + k.toNat)).data.toList ≠ .ok v) (hk2 : at_ + k.toNat < s.size) :
    Calls Tryd.prog 79 #[.pointer (some ⟨rb, 0, none⟩), .int .u8 ec] w (LateBad rb s (at_ + (k.toNat + 1)) w) := by
  have HI : Hid (∀ w, Calls Tryd.prog 81 #[.string (s.extract at_ s.size), .int .u8 ec] w fun e w' => e = .returned (.int .i64 k) ∧ w' = w) := fun w => idx78 _ ec k E hE hk w
  clear hk hE
  have c0 := hR.c0
  have c1 := hR.c1
  have hf := hR.f 1
  have HR := Lib.hid hR; clear hR
  obtain ⟨k, rfl⟩ := Int.eq_ofNat_of_zero_le (by omega : 0 ≤ k)
  rw [Int.toNat_natCast] at hp hk2 ⊢
  have HP := Lib.hid (fun w hl => par79_bad _ hp (by simp; omega) w hl); clear hp
  have q1 := decN ((k : Int) < 1) (by omega)
  have q2 := decN (19 < (k : Int)) (by omega)
  have q4 := decN (((s[at_]).toNat : Int) < 48) (by omega)
  have q5 := decN (57 < ((s[at_]).toNat : Int)) (by omega)
  have q : (((s[at_]).toNat : Int) == 48) = false := by
    simp only [beq_eq_false_iff_ne, ne_eq]; intro h'; exact h (UInt8.toNat_inj.1 (by simpa using (by omega : (s[at_]).toNat = 48)))
  clear hd hd' h
  go_enter Tryd.func79, Tryd.ntmps79
  go_wp2_with fail
  go_quiet ((go_at_call 81; exact Calls.quiet_of_same (HI.out _)))
  go_wp2_with fail
  go_quiet (fail)
  go_wp2_with fail
  have b1 : (0 : Int) ≤ (at_ : Int) := by omega
  have b2 : (at_ : Int) + (k : Int) ≤ (s.size : Int) := by omega
  have b3 : IntKind.i64.wrap ((at_ : Int) + (k : Int)) = (at_ : Int) + (k : Int) := IntWalk.i64_in _ (by omega)
  have b4 : ((at_ : Int) + (k : Int)).toNat = at_ + k := by omega
  have b5 : (at_ : Int) ≤ (at_ : Int) + (k : Int) := by omega
  have b6 : at_ ≤ at_ + k := by omega
  have b7 : at_ + k ≤ s.size := by omega
  have b8 : (0 : Int) ≤ (at_ : Int) + (k : Int) := by omega
  go_region_held3 (fun w' => w'.cell? ⟨rb, 0, none⟩ = some (.string s) ∧ w'.cell? ⟨rb, 1, none⟩ = some (.int .i64 at_) ∧ w'.frozen? ⟨rb, 1, none⟩ = false ∧ HeldN rb s at_ w w')
    ((first | (exact keepN HR.out hL hb1) | (refine ⟨?_, ?_, ?_, held_drewN HR.out hL ?_⟩; all_goals first | (simp [*]; done) | (repeat (first | exact Below.refl _ _ | refine below_drewN ?_ _ | refine Below.drew ?_)))))
    (first | (go_at_call 82; go_split_ands; (with_reducible refine Calls.mono (HP.out _ (hL.below (by repeat (first | exact Below.refl _ _ | refine below_drewN ?_ _ | refine Below.drew ?_)))) ?_); rintro e w1 ⟨n1, b1', rfl, hb1⟩))
  go_split_ands
  go_wp2_with fail
  all_goals go_quiet (fail)
  all_goals go_wp2
  all_goals go_ret2
  all_goals
    have hh : HeldN rb s (at_ : Int) w w1 := by assumption
    refine ⟨⟨_, rfl⟩, ?_, ?_⟩
    · exact grown_trans (grown_below hh.1 _) (grown_trans (grown_set _ _ _ _) (grown_below (below_drewN (Below.refl _ _) _) _))
    · have h3 := hh.2.1.set ((at_ : Int) + ((k : Int) + 1))
      rw [show ((at_ + (k + 1) : Nat) : Int) = (at_ : Int) + ((k : Int) + 1) by omega]
      exact h3.below (below_drewN (Below.refl _ _) _)

end Go.Proofs.YtakfhoodjcfpcaaDoor
