/- TlvOrder, walked. -/
import Derived.Test.YtcdeggocnaodiaaM
import Derived.Test.YtcdeggocnaodiaaLaw
namespace Go.Proofs.Ytcdeggocnaodiaa
open Go.RowKit Tlv
theorem put_str (x : Int) (x0 : 0 ≤ x) (X : ByteArray) (hX : X = ⟨(putN x.toNat).toArray⟩) : Hid (∀ w, Calls Try.prog 12 #[.int .u64 x] w fun e w' => ∃ g c n, e = .returned (.slice (some ⟨g, 0, none⟩) n c) ∧ Hid (∀ w2, Below w'.heap.size w' w2 → (convert 23 9 (.slice (some ⟨g, 0, none⟩) n c)).run Try.prog w2 = .ok (.string X) w2) ∧ Below w.heap.size w w') := fun w => (Put_any x x0 w).mono fun e w' h => by
  obtain ⟨g, c, rfl, h1, h2⟩ := new_some h (putN_ne _)
  exact ⟨g, c, _, rfl, fun w2 hb => by rw [hX]; exact conv_str w2 g _ c (h1.below hb) (putN_ne _), h2⟩
theorem get_back (l m : List UInt8) (n : Nat) (hn : n = (l ++ m).length) (p : Nat) (x : Int) (hg : getN (l ++ m) = (x.toNat, p, 0)) (x0 : 0 ≤ x) (W : World) (g c : Nat) (hs : Src W (some ⟨g, 0, none⟩) (l ++ m)) (h1 : n ≤ c) (h2 : c ≤ maxLen) :
    Calls Try.prog 10 #[.slice (some ⟨g, 0, none⟩) n c] W fun e w' => e = .returned (.tuple #[.int .u64 x, .int .i64 p, .int .i64 0]) ∧ W = w' := by
  subst hn
  have h := get_any (some ⟨g, 0, none⟩) (l ++ m) c W h1 h2 hs
  rw [hg] at h
  refine h.mono fun e w' ⟨h1, h2⟩ => ⟨?_, h2⟩
  rw [h1, Int.toNat_of_nonneg x0]
  rfl
/-- []byte(s): where, how much, the world -/
theorem back_fun (l : List UInt8) (Z : ByteArray) (hZ : Z = ⟨l.toArray⟩) (n : Nat) (hn : Z.size = n) (hm : n ≤ maxLen) : ∃ (C : World → Nat) (F : World → World), (∀ w, (convert 9 23 (.string Z)).run Try.prog w = .ok (.slice (some ⟨w.heap.size, 0, none⟩) n (C w)) (F w)) ∧ Hid (∀ w, Src (F w) (some ⟨w.heap.size, 0, none⟩) l ∧ n ≤ C w ∧ C w ≤ maxLen ∧ Below w.heap.size w (F w)) := by
  subst hn
  refine ⟨fun w => grownCap w Z.size 0 5, fun w => Lib.bytesWorld w 5 Z, fun w => conv_back w Z, fun w => ⟨by rw [hZ]; exact back_src w l, grownCap_ge _ _ _ _, grownCap_le_maxLen _ _ _ _ hm, back_below w Z⟩⟩
set_option maxRecDepth 100000 in
set_option maxHeartbeats 1000000 in
theorem order_much (x y : Int) (a : Option Addr) (cp : Nat) (l : List UInt8) (w : World) (hl : 3000 < l.length) (hm : l.length ≤ maxLen) : Calls Try.prog 6 #[.int .u64 x, .int .u64 y, .slice a l.length cp] w fun e w' => e = .returned (.bool true) ∧ Below w.heap.size w w' := by
  unfold maxLen at hm
  have h1 : (3000 : Int) < (l.length : Int) := by omega
  generalize l.length = k at *
  go_enter Try.func6, Try.ntmps6
  go_wp2_with (go_at_call 9; (with_reducible refine Calls.mono (works_any _) ?_); rintro e w1 ⟨rfl, hb1⟩)
  go_ret
  exact ⟨rfl, hb1⟩
set_option maxRecDepth 100000 in
set_option maxHeartbeats 1000000 in
theorem order_same (x : Int) (x0 : 0 ≤ x) (hx : x.toNat < 18446744073709551616) (X : ByteArray) (hX : X = ⟨(putN x.toNat).toArray⟩) (p : Nat) (a : Option Addr) (cp : Nat) (l : List UInt8) (w : World) (hl : l.length ≤ 3000) (hs : Src w a l) (hp : X.size = p) (e3 : Op.bytesLess X.toList X.toList = false) :
    Calls Try.prog 6 #[.int .u64 x, .int .u64 x, .slice a l.length cp] w fun e w' => e = .returned (.bool true) ∧ Below w.heap.size w w' := by
  have HP := put_str x x0 X hX
  have HQ := put_str x x0 X hX
  have h1 : ¬ (3000 : Int) < (l.length : Int) := by omega
  have HS : Hid (∀ w', Below w.heap.size w w' → (convert 23 9 (.slice a l.length cp)).run Try.prog w' = .ok (.string ⟨l.toArray⟩) w') := fun w' hb => conv_src w' a l cp (hs.below hb)
  obtain ⟨Z, hZ⟩ : ∃ Z : ByteArray, X ++ ⟨l.toArray⟩ = Z := ⟨_, rfl⟩
  have hZ' : Z = ⟨(putN x.toNat ++ l).toArray⟩ := by rw [← hZ, hX, ByteArray.mk_append_mk]
  have hzn : Z.size = (putN x.toNat ++ l).length := by rw [hZ']; simp [ByteArray.size]
  have hpl : (putN x.toNat).length = p := by rw [← hp, hX]; simp [ByteArray.size]
  have hp9 := (putN_pos x.toNat).2
  have hlb : (putN x.toNat ++ l).length = (putN x.toNat).length + l.length := List.length_append
  obtain ⟨zn, hzs⟩ : ∃ zn, Z.size = zn := ⟨_, rfl⟩
  obtain ⟨C, F, hback, HF⟩ := back_fun _ Z hZ' zn hzs (by rw [← hzs, hzn, hlb]; unfold maxLen; omega)
  have HG := Lib.hid (fun (W : World) (g c : Nat) => get_back (putN x.toNat) l zn (by rw [← hzs]; exact hzn) p x (by rw [get_put _ hx, hpl]) x0 W g c)
  have hadd : ∀ w : World, (Op.stringOp .add X ⟨l.toArray⟩).run Try.prog w = .ok (.string Z) w := fun w => by
    rw [run_string_add_sum w _ _ (by rw [hp]; simp [ByteArray.size]; omega), hZ]
  obtain ⟨L, hL⟩ : ∃ L : ByteArray, (⟨l.toArray⟩ : ByteArray) = L := ⟨_, rfl⟩
  rw [hL] at HS hadd
  clear hX  hs hZ hZ' hzn hpl hp9 hlb hL hzs hx
  generalize l.length = k at *
  go_enter Try.func6, Try.ntmps6
  go_wp2_with fail
  go_region_held (fun _ => True) (trivial) ((first
    | (go_at_call 12; (with_reducible refine Calls.mono (HQ.out _) ?_); rintro e w3 ⟨g3, c3, n3, rfl, cv3, hb3⟩; have c33 := cv3.out w3 (Below.refl _ _); have c23 := cv2.out w3 hb3; have HB3 := Lib.hid hb3; clear hb3)
    | (go_at_call 12; (with_reducible refine Calls.mono (HP.out _) ?_); rintro e w2 ⟨g2, c2, n2, rfl, cv2, hb2⟩; have c22 := cv2.out w2 (Below.refl _ _); have HB2 := Lib.hid hb2; clear hb2)))
  all_goals (
    have z2 : w.heap.size ≤ w2.heap.size := HB2.out.size
    have bel3 := (Below.refl w.heap.size w).drew.trans (HB2.out.mono (Nat.le_refl _)) |>.trans (HB3.out.mono z2)
    have cs := fun (n : Nat) => HS.out _ (below_drewN bel3 n)
    have BEL3 := Lib.hid bel3
    have HF3 := Lib.hid (fun (n : Nat) => HF.out (w3.drewN n))
    clear bel3 z2 cv2 cv3 c22 c23 c33 HS
    go_wp2
    go_quiet (fail)

    go_wp2_with (first
      | (go_at_call 10; (with_reducible refine Calls.mono (HG.out _ _ _ (HF3.out _).1 (HF3.out _).2.1 (HF3.out _).2.2.1) ?_); rintro e w4 ⟨rfl, rfl⟩)
      | (go_at_call 9; (with_reducible refine Calls.mono (works_any _) ?_); rintro e w4 ⟨rfl, hb4⟩; have HB4 := Lib.hid hb4; clear hb4))

    go_ret
    have hF := (HF3.out nq).2.2.2
    have zz := (below_drewN BEL3.out nq).size
    exact ⟨rfl, ((below_drewN BEL3.out nq).trans (hF.mono zz)).trans (HB4.out.mono (Nat.le_trans zz hF.size))⟩)
set_option maxRecDepth 100000 in
set_option maxHeartbeats 1000000 in
theorem order_long (x y : Int) (x0 : 0 ≤ x) (y0 : 0 ≤ y) (hx : x.toNat < 18446744073709551616) (X Y : ByteArray) (hX : X = ⟨(putN x.toNat).toArray⟩) (hY : Y = ⟨(putN y.toNat).toArray⟩) (p : Nat) (a : Option Addr) (cp : Nat) (l : List UInt8) (w : World) (hl : l.length ≤ 3000) (hs : Src w a l) (e0 : (X.toList == Y.toList) = false) (e1 : (x == y) = false) (e1' : (x != y) = true) (hp : X.size = p) (hq : Y.size = p) (e2 : ((X.extract 0 p).toList == (Y.extract 0 p).toList) = false) (d : Bool) (e3 : Op.bytesLess X.toList Y.toList = d) (e4 : decide (x < y) = d) :
    Calls Try.prog 6 #[.int .u64 x, .int .u64 y, .slice a l.length cp] w fun e w' => e = .returned (.bool true) ∧ Below w.heap.size w w' := by
  have HP := put_str x x0 X hX
  have HQ := put_str y y0 Y hY
  have h1 : ¬ (3000 : Int) < (l.length : Int) := by omega
  have HS : Hid (∀ w', Below w.heap.size w w' → (convert 23 9 (.slice a l.length cp)).run Try.prog w' = .ok (.string ⟨l.toArray⟩) w') := fun w' hb => conv_src w' a l cp (hs.below hb)
  obtain ⟨Z, hZ⟩ : ∃ Z : ByteArray, X ++ ⟨l.toArray⟩ = Z := ⟨_, rfl⟩
  have hZ' : Z = ⟨(putN x.toNat ++ l).toArray⟩ := by rw [← hZ, hX, ByteArray.mk_append_mk]
  have hzn : Z.size = (putN x.toNat ++ l).length := by rw [hZ']; simp [ByteArray.size]
  have hpl : (putN x.toNat).length = p := by rw [← hp, hX]; simp [ByteArray.size]
  have hp9 := (putN_pos x.toNat).2
  have hlb : (putN x.toNat ++ l).length = (putN x.toNat).length + l.length := List.length_append
  obtain ⟨zn, hzs⟩ : ∃ zn, Z.size = zn := ⟨_, rfl⟩
  obtain ⟨C, F, hback, HF⟩ := back_fun _ Z hZ' zn hzs (by rw [← hzs, hzn, hlb]; unfold maxLen; omega)
  have HG := Lib.hid (fun (W : World) (g c : Nat) => get_back (putN x.toNat) l zn (by rw [← hzs]; exact hzn) p x (by rw [get_put _ hx, hpl]) x0 W g c)
  have hadd : ∀ w : World, (Op.stringOp .add X ⟨l.toArray⟩).run Try.prog w = .ok (.string Z) w := fun w => by
    rw [run_string_add_sum w _ _ (by rw [hp]; simp [ByteArray.size]; omega), hZ]
  obtain ⟨L, hL⟩ : ∃ L : ByteArray, (⟨l.toArray⟩ : ByteArray) = L := ⟨_, rfl⟩
  rw [hL] at HS hadd
  clear hX hY hs hZ hZ' hzn hpl hp9 hlb hL hzs hx
  generalize l.length = k at *
  go_enter Try.func6, Try.ntmps6
  go_wp2_with fail
  go_region_held (fun _ => True) (trivial) ((first
    | (go_at_call 12; (with_reducible refine Calls.mono (HQ.out _) ?_); rintro e w3 ⟨g3, c3, n3, rfl, cv3, hb3⟩; have c33 := cv3.out w3 (Below.refl _ _); have c23 := cv2.out w3 hb3; have HB3 := Lib.hid hb3; clear hb3)
    | (go_at_call 12; (with_reducible refine Calls.mono (HP.out _) ?_); rintro e w2 ⟨g2, c2, n2, rfl, cv2, hb2⟩; have c22 := cv2.out w2 (Below.refl _ _); have HB2 := Lib.hid hb2; clear hb2)))
  all_goals (
    have z2 : w.heap.size ≤ w2.heap.size := HB2.out.size
    have bel3 := (Below.refl w.heap.size w).drew.trans (HB2.out.mono (Nat.le_refl _)) |>.trans (HB3.out.mono z2)
    have cs := fun (n : Nat) => HS.out _ (below_drewN bel3 n)
    have BEL3 := Lib.hid bel3
    have HF3 := Lib.hid (fun (n : Nat) => HF.out (w3.drewN n))
    clear bel3 z2 cv2 cv3 c22 c23 c33 HS
    go_wp2
    go_quiet (fail)

    go_wp2_with (first
      | (go_at_call 10; (with_reducible refine Calls.mono (HG.out _ _ _ (HF3.out _).1 (HF3.out _).2.1 (HF3.out _).2.2.1) ?_); rintro e w4 ⟨rfl, rfl⟩)
      | (go_at_call 9; (with_reducible refine Calls.mono (works_any _) ?_); rintro e w4 ⟨rfl, hb4⟩; have HB4 := Lib.hid hb4; clear hb4))

    go_ret
    have hF := (HF3.out nq).2.2.2
    have zz := (below_drewN BEL3.out nq).size
    exact ⟨rfl, ((below_drewN BEL3.out nq).trans (hF.mono zz)).trans (HB4.out.mono (Nat.le_trans zz hF.size))⟩)
set_option maxRecDepth 100000 in
set_option maxHeartbeats 1000000 in
theorem order_less (x y : Int) (x0 : 0 ≤ x) (y0 : 0 ≤ y) (hx : x.toNat < 18446744073709551616) (X Y : ByteArray) (hX : X = ⟨(putN x.toNat).toArray⟩) (hY : Y = ⟨(putN y.toNat).toArray⟩) (p q : Nat) (a : Option Addr) (cp : Nat) (l : List UInt8) (w : World) (hl : l.length ≤ 3000) (hs : Src w a l) (e0 : (X.toList == Y.toList) = false) (e1 : (x == y) = false) (e1' : (x != y) = true) (hp : X.size = p) (hq : Y.size = q) (e2 : ((X.extract 0 p).toList == (Y.extract 0 p).toList) = false) (h : p < q) (hi : (p : Int) < (q : Int)) (hb : ((p : Int) == (q : Int)) = false) (e4 : decide (y ≤ x) = false) :
    Calls Try.prog 6 #[.int .u64 x, .int .u64 y, .slice a l.length cp] w fun e w' => e = .returned (.bool true) ∧ Below w.heap.size w w' := by
  have HP := put_str x x0 X hX
  have HQ := put_str y y0 Y hY
  have h1 : ¬ (3000 : Int) < (l.length : Int) := by omega
  have HS : Hid (∀ w', Below w.heap.size w w' → (convert 23 9 (.slice a l.length cp)).run Try.prog w' = .ok (.string ⟨l.toArray⟩) w') := fun w' hb => conv_src w' a l cp (hs.below hb)
  obtain ⟨Z, hZ⟩ : ∃ Z : ByteArray, X ++ ⟨l.toArray⟩ = Z := ⟨_, rfl⟩
  have hZ' : Z = ⟨(putN x.toNat ++ l).toArray⟩ := by rw [← hZ, hX, ByteArray.mk_append_mk]
  have hzn : Z.size = (putN x.toNat ++ l).length := by rw [hZ']; simp [ByteArray.size]
  have hpl : (putN x.toNat).length = p := by rw [← hp, hX]; simp [ByteArray.size]
  have hp9 := (putN_pos x.toNat).2
  have hlb : (putN x.toNat ++ l).length = (putN x.toNat).length + l.length := List.length_append
  obtain ⟨zn, hzs⟩ : ∃ zn, Z.size = zn := ⟨_, rfl⟩
  obtain ⟨C, F, hback, HF⟩ := back_fun _ Z hZ' zn hzs (by rw [← hzs, hzn, hlb]; unfold maxLen; omega)
  have HG := Lib.hid (fun (W : World) (g c : Nat) => get_back (putN x.toNat) l zn (by rw [← hzs]; exact hzn) p x (by rw [get_put _ hx, hpl]) x0 W g c)
  have hadd : ∀ w : World, (Op.stringOp .add X ⟨l.toArray⟩).run Try.prog w = .ok (.string Z) w := fun w => by
    rw [run_string_add_sum w _ _ (by rw [hp]; simp [ByteArray.size]; omega), hZ]
  obtain ⟨L, hL⟩ : ∃ L : ByteArray, (⟨l.toArray⟩ : ByteArray) = L := ⟨_, rfl⟩
  rw [hL] at HS hadd
  clear hX hY hs hZ hZ' hzn hpl hp9 hlb hL hzs hx
  generalize l.length = k at *
  go_enter Try.func6, Try.ntmps6
  go_wp2_with fail
  go_region_held (fun _ => True) (trivial) ((first
    | (go_at_call 12; (with_reducible refine Calls.mono (HQ.out _) ?_); rintro e w3 ⟨g3, c3, n3, rfl, cv3, hb3⟩; have c33 := cv3.out w3 (Below.refl _ _); have c23 := cv2.out w3 hb3; have HB3 := Lib.hid hb3; clear hb3)
    | (go_at_call 12; (with_reducible refine Calls.mono (HP.out _) ?_); rintro e w2 ⟨g2, c2, n2, rfl, cv2, hb2⟩; have c22 := cv2.out w2 (Below.refl _ _); have HB2 := Lib.hid hb2; clear hb2)))
  all_goals (
    have z2 : w.heap.size ≤ w2.heap.size := HB2.out.size
    have bel3 := (Below.refl w.heap.size w).drew.trans (HB2.out.mono (Nat.le_refl _)) |>.trans (HB3.out.mono z2)
    have cs := fun (n : Nat) => HS.out _ (below_drewN bel3 n)
    have BEL3 := Lib.hid bel3
    have HF3 := Lib.hid (fun (n : Nat) => HF.out (w3.drewN n))
    clear bel3 z2 cv2 cv3 c22 c23 c33 HS
    go_wp2
    go_quiet (fail)

    go_wp2_with (first
      | (go_at_call 10; (with_reducible refine Calls.mono (HG.out _ _ _ (HF3.out _).1 (HF3.out _).2.1 (HF3.out _).2.2.1) ?_); rintro e w4 ⟨rfl, rfl⟩)
      | (go_at_call 9; (with_reducible refine Calls.mono (works_any _) ?_); rintro e w4 ⟨rfl, hb4⟩; have HB4 := Lib.hid hb4; clear hb4))

    go_ret
    have hF := (HF3.out nq).2.2.2
    have zz := (below_drewN BEL3.out nq).size
    exact ⟨rfl, ((below_drewN BEL3.out nq).trans (hF.mono zz)).trans (HB4.out.mono (Nat.le_trans zz hF.size))⟩)
set_option maxRecDepth 100000 in
set_option maxHeartbeats 1000000 in
theorem order_more (x y : Int) (x0 : 0 ≤ x) (y0 : 0 ≤ y) (hx : x.toNat < 18446744073709551616) (X Y : ByteArray) (hX : X = ⟨(putN x.toNat).toArray⟩) (hY : Y = ⟨(putN y.toNat).toArray⟩) (p q : Nat) (a : Option Addr) (cp : Nat) (l : List UInt8) (w : World) (hl : l.length ≤ 3000) (hs : Src w a l) (e0 : (X.toList == Y.toList) = false) (e1 : (x == y) = false) (e1' : (x != y) = true) (hp : X.size = p) (hq : Y.size = q) (e2 : ((X.extract 0 q).toList == (Y.extract 0 q).toList) = false) (h : q < p) (k1 : q ≤ p) (hi : (q : Int) < (p : Int)) (hb : ((p : Int) == (q : Int)) = false) (hd : ¬ p < q) :
    Calls Try.prog 6 #[.int .u64 x, .int .u64 y, .slice a l.length cp] w fun e w' => e = .returned (.bool true) ∧ Below w.heap.size w w' := by
  have HP := put_str x x0 X hX
  have HQ := put_str y y0 Y hY
  have h1 : ¬ (3000 : Int) < (l.length : Int) := by omega
  have HS : Hid (∀ w', Below w.heap.size w w' → (convert 23 9 (.slice a l.length cp)).run Try.prog w' = .ok (.string ⟨l.toArray⟩) w') := fun w' hb => conv_src w' a l cp (hs.below hb)
  obtain ⟨Z, hZ⟩ : ∃ Z : ByteArray, X ++ ⟨l.toArray⟩ = Z := ⟨_, rfl⟩
  have hZ' : Z = ⟨(putN x.toNat ++ l).toArray⟩ := by rw [← hZ, hX, ByteArray.mk_append_mk]
  have hzn : Z.size = (putN x.toNat ++ l).length := by rw [hZ']; simp [ByteArray.size]
  have hpl : (putN x.toNat).length = p := by rw [← hp, hX]; simp [ByteArray.size]
  have hp9 := (putN_pos x.toNat).2
  have hlb : (putN x.toNat ++ l).length = (putN x.toNat).length + l.length := List.length_append
  obtain ⟨zn, hzs⟩ : ∃ zn, Z.size = zn := ⟨_, rfl⟩
  obtain ⟨C, F, hback, HF⟩ := back_fun _ Z hZ' zn hzs (by rw [← hzs, hzn, hlb]; unfold maxLen; omega)
  have HG := Lib.hid (fun (W : World) (g c : Nat) => get_back (putN x.toNat) l zn (by rw [← hzs]; exact hzn) p x (by rw [get_put _ hx, hpl]) x0 W g c)
  have hadd : ∀ w : World, (Op.stringOp .add X ⟨l.toArray⟩).run Try.prog w = .ok (.string Z) w := fun w => by
    rw [run_string_add_sum w _ _ (by rw [hp]; simp [ByteArray.size]; omega), hZ]
  obtain ⟨L, hL⟩ : ∃ L : ByteArray, (⟨l.toArray⟩ : ByteArray) = L := ⟨_, rfl⟩
  rw [hL] at HS hadd
  clear hX hY hs hZ hZ' hzn hpl hp9 hlb hL hzs hx
  generalize l.length = k at *
  go_enter Try.func6, Try.ntmps6
  go_wp2_with fail
  go_region_held (fun _ => True) (trivial) ((first
    | (go_at_call 12; (with_reducible refine Calls.mono (HQ.out _) ?_); rintro e w3 ⟨g3, c3, n3, rfl, cv3, hb3⟩; have c33 := cv3.out w3 (Below.refl _ _); have c23 := cv2.out w3 hb3; have HB3 := Lib.hid hb3; clear hb3)
    | (go_at_call 12; (with_reducible refine Calls.mono (HP.out _) ?_); rintro e w2 ⟨g2, c2, n2, rfl, cv2, hb2⟩; have c22 := cv2.out w2 (Below.refl _ _); have HB2 := Lib.hid hb2; clear hb2)))
  all_goals (
    have z2 : w.heap.size ≤ w2.heap.size := HB2.out.size
    have bel3 := (Below.refl w.heap.size w).drew.trans (HB2.out.mono (Nat.le_refl _)) |>.trans (HB3.out.mono z2)
    have cs := fun (n : Nat) => HS.out _ (below_drewN bel3 n)
    have BEL3 := Lib.hid bel3
    have HF3 := Lib.hid (fun (n : Nat) => HF.out (w3.drewN n))
    clear bel3 z2 cv2 cv3 c22 c23 c33 HS
    go_wp2
    go_quiet (fail)

    go_wp2_with (first
      | (go_at_call 10; (with_reducible refine Calls.mono (HG.out _ _ _ (HF3.out _).1 (HF3.out _).2.1 (HF3.out _).2.2.1) ?_); rintro e w4 ⟨rfl, rfl⟩)
      | (go_at_call 9; (with_reducible refine Calls.mono (works_any _) ?_); rintro e w4 ⟨rfl, hb4⟩; have HB4 := Lib.hid hb4; clear hb4))

    go_ret
    have hF := (HF3.out nq).2.2.2
    have zz := (below_drewN BEL3.out nq).size
    exact ⟨rfl, ((below_drewN BEL3.out nq).trans (hF.mono zz)).trans (HB4.out.mono (Nat.le_trans zz hF.size))⟩)
theorem toList_mk (l : List UInt8) : (⟨l.toArray⟩ : ByteArray).toList = l := by exact ByteArray.toList_mk l
theorem toList_ext (l : List UInt8) (n : Nat) : ((⟨l.toArray⟩ : ByteArray).extract 0 n).toList = l.take n := by
  rw [ByteArray.toList_eq, ByteArray.data_extract]
  simp
theorem less_self (l : List UInt8) : Op.bytesLess l l = false := by
  induction l with
  | nil => rfl
  | cons c l ih => simp [Op.bytesLess, ih]
theorem order_any (x : Int) (x0 : 0 ≤ x) (x1 : x < 18446744073709551616) (y : Int) (y0 : 0 ≤ y) (y1 : y < 18446744073709551616) (a : Option Addr) (cp : Nat) (l : List UInt8) (w : World) (_hc : l.length ≤ cp) (hm : cp ≤ maxLen) (hs : Src w a l) :
    Calls Try.prog 6 #[.int .u64 x, .int .u64 y, .slice a l.length cp] w fun e w' => e = .returned (.bool true) ∧ Below w.heap.size w w' := by
  by_cases hl : 3000 < l.length
  · exact order_much x y a cp l w hl (by omega)
  · have hl' : l.length ≤ 3000 := by omega
    have hx : x.toNat < 18446744073709551616 := by omega
    have hy : y.toNat < 18446744073709551616 := by omega
    by_cases e : x = y
    · subst e
      exact order_same x x0 hx _ rfl _ a cp l w hl' hs rfl (less_self _)
    · have hne : x.toNat ≠ y.toNat := by omega
      have e0 : ((⟨(putN x.toNat).toArray⟩ : ByteArray).toList == (⟨(putN y.toNat).toArray⟩ : ByteArray).toList) = false := by
        rw [toList_mk, toList_mk, beq_eq_false_iff_ne]
        exact fun h => hne (put_inj hx hy h)
      have e1 : (x == y) = false := by rw [beq_eq_false_iff_ne]; exact e
      have e1' : (x != y) = true := by rw [bne, e1]; rfl
      have ex : ∀ k, k = min (putN x.toNat).length (putN y.toNat).length → (((⟨(putN x.toNat).toArray⟩ : ByteArray).extract 0 k).toList == ((⟨(putN y.toNat).toArray⟩ : ByteArray).extract 0 k).toList) = false := fun k hk => by
        rw [toList_ext, toList_ext, beq_eq_false_iff_ne]
        exact fun h => hne (put_prefix hx hy k hk h)
      have sx : (⟨(putN x.toNat).toArray⟩ : ByteArray).size = (putN x.toNat).length := by simp [ByteArray.size]
      have sy : (⟨(putN y.toNat).toArray⟩ : ByteArray).size = (putN y.toNat).length := by simp [ByteArray.size]
      rcases Nat.lt_trichotomy (putN x.toNat).length (putN y.toNat).length with h | h | h
      · have hlt := put_long h
        exact order_less x y x0 y0 hx _ _ rfl rfl _ _ a cp l w hl' hs e0 e1 e1' sx sy (ex _ (by omega)) h (by omega) (by simp; omega) (by simp; omega)
      · refine order_long x y x0 y0 hx _ _ rfl rfl _ a cp l w hl' hs e0 e1 e1' sx (by rw [sy, h]) (ex _ (by omega)) (decide (x < y)) ?_ rfl
        rw [toList_mk, toList_mk, put_less hx hy h]
        simp only [decide_eq_decide]
        omega
      · exact order_more x y x0 y0 hx _ _ rfl rfl _ _ a cp l w hl' hs e0 e1 e1' sx sy (ex _ (by omega)) h (by omega) (by omega) (by simp; omega) (by omega)
end Go.Proofs.Ytcdeggocnaodiaa
