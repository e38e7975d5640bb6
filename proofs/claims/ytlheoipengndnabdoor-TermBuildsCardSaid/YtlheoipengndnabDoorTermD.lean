import Derived.Test.YtlheoipengndnabDoorTermC
namespace Go.Proofs.YtlheoipengndnabDoor
open Go.RowKit

/-- the rest of a term: its number, text, parts, depth, and what stands behind it -/
abbrev Rest := Nat × List UInt8 × List (List UInt8) × Nat × List UInt8
/-- reader.term reads what parse reads, in so much room -/
def TermAt (rb R : Nat) (s : ByteArray) : Prop := ∀ (a : Nat) (W : World), a ≤ s.size → Rd rb s a W → LibOk W → Calls Tryd.prog 40 #[.pointer (some ⟨rb, 0, none⟩), .int .i64 R] W (TermPost rb s (parse R (s.data.toList.drop a)) W)
/-- what is left by the reading of a rest -/
def RestPost (rb xb : Nat) (s : ByteArray) (op : Int) (o : Option Rest) (w : World) (e : Ending) (w' : World) : Prop :=
  Fr (Two rb xb) w w' ∧
    (o = none → e = .returned (.bool false) ∧ ∃ (z m d : Int) (u : ByteArray) (kv : Value), Rd rb s z w' ∧ Xs xb op m u kv d w') ∧
    (∀ n t ks d rest, o = some (n, t, ks, d, rest) → e = .returned (.bool true) ∧ ∃ (a : Nat) (u : ByteArray) (kv : Value), a ≤ s.size ∧ s.data.toList.drop a = rest ∧ u.data.toList = t ∧ Rd rb s a w' ∧ Xs xb op n u kv d w' ∧ KidsAt w.heap.size kv ks w')
/-- so many parts -/
def kidsO (R k : Nat) (l : List UInt8) : Option Rest := match kidsP (parse R) k l with
  | none => none
  | some (ks, d, u) => some (0, [], ks, d, u)
theorem kids_deep1 (p : List UInt8 → Option (Sh × List UInt8)) : ∀ k l ks d r, kidsP p k l = some (ks, d, r) → 1 ≤ d := by
  intro k
  induction k with
  | zero => intro l ks d r h; simp only [kidsP, Option.some.injEq, Prod.mk.injEq] at h; omega
  | succ k ih =>
    intro l ks d r h
    simp only [kidsP] at h
    split at h
    · cases h
    · split at h
      · cases h
      · rename_i hk
        simp only [Option.some.injEq, Prod.mk.injEq] at h
        have := ih _ _ _ _ hk
        omega
theorem kids_rest (rb xb at_ R : Nat) (s : ByteArray) (op : Int) (w : World) (hs : s.size ≤ 16384) (hRR : R ≤ 64) (ha : at_ ≤ s.size) (hR : Rd rb s at_ w) (hX : Xs xb op 0 ⟨#[]⟩ (.slice none 0 0) 1 w) (hL : LibOk w) (hne : xb ≠ rb) (h6 : 6 ≤ rb) (h6' : 6 ≤ xb)
    (hT : TermAt rb R s) (k : Nat) (hk : k ≤ 32) :
    Calls Tryd.prog 66 #[.pointer (some ⟨rb, 0, none⟩), .pointer (some ⟨xb, 0, none⟩), .int .i64 k, .int .i64 (R + 1)] w (RestPost rb xb s op (kidsO R k (s.data.toList.drop at_)) w) := by
  refine Calls.mono (kids_any rb xb at_ R k s op 0 ⟨#[]⟩ w hs hk hRR ha hR hX hL hne h6 h6' hT _ rfl) ?_
  rintro e w' ⟨hf, hno, hyes⟩
  rw [kidsF_eq _ _ _ _ _ (Nat.le_refl _)] at hno hyes
  unfold RestPost kidsO
  cases hp : kidsP (parse R) k (s.data.toList.drop at_) with
  | none =>
    rw [hp] at hno
    exact ⟨hf, fun _ => hno rfl, fun n t ks d rest h => (by cases h)⟩
  | some y =>
    obtain ⟨ks, d, u⟩ := y
    rw [hp] at hyes
    have hd : 1 ≤ d := kids_deep1 _ _ _ _ _ _ hp
    refine ⟨hf, fun h => (by cases h), fun n t ks' d' rest h => ?_⟩
    simp only [Option.some.injEq, Prod.mk.injEq] at h
    obtain ⟨rfl, rfl, rfl, rfl, rfl⟩ := h
    obtain ⟨h1, a, kv, h2, h3, h4, h5, h6⟩ := hyes ks (max 1 d) u (by simp)
    rw [show max 1 d = d by omega] at h5
    exact ⟨h1, a, ⟨#[]⟩, kv, h2, h3, rfl, h4, h5, h6⟩

set_option maxRecDepth 100000 in
set_option maxHeartbeats 1000000 in
theorem one_calls (rb xb R : Nat) (s : ByteArray) (op : Int) (o : Option Rest) (w : World) (hc : Calls Tryd.prog 66 #[.pointer (some ⟨rb, 0, none⟩), .pointer (some ⟨xb, 0, none⟩), .int .i64 1, .int .i64 (R + 1)] w (RestPost rb xb s op o w)) :
    Calls Tryd.prog 58 #[.pointer (some ⟨rb, 0, none⟩), .pointer (some ⟨xb, 0, none⟩), .int .i64 (R + 1)] w (RestPost rb xb s op o w) := by
  have HC := Lib.hid hc; clear hc
  go_enter Tryd.func58, Tryd.ntmps58
  cases o with
  | none =>
    go_wp2_with (go_at_call 66; (with_reducible refine Calls.mono HC.out ?_); rintro e w1 hp; obtain ⟨rfl, _⟩ := hp.2.1 rfl; have HP := Lib.hid hp; clear hp)
    try go_ret
    exact HP.out
  | some y =>
    obtain ⟨n, t, ks, d, rest⟩ := y
    go_wp2_with (go_at_call 66; (with_reducible refine Calls.mono HC.out ?_); rintro e w1 hp; obtain ⟨rfl, _⟩ := hp.2.2 _ _ _ _ _ rfl; have HP := Lib.hid hp; clear hp)
    try go_ret
    exact HP.out
set_option maxRecDepth 100000 in
set_option maxHeartbeats 1000000 in
theorem two_calls (rb xb R : Nat) (s : ByteArray) (op : Int) (o : Option Rest) (w : World) (hc : Calls Tryd.prog 66 #[.pointer (some ⟨rb, 0, none⟩), .pointer (some ⟨xb, 0, none⟩), .int .i64 2, .int .i64 (R + 1)] w (RestPost rb xb s op o w)) :
    Calls Tryd.prog 59 #[.pointer (some ⟨rb, 0, none⟩), .pointer (some ⟨xb, 0, none⟩), .int .i64 (R + 1)] w (RestPost rb xb s op o w) := by
  have HC := Lib.hid hc; clear hc
  go_enter Tryd.func59, Tryd.ntmps59
  cases o with
  | none =>
    go_wp2_with (go_at_call 66; (with_reducible refine Calls.mono HC.out ?_); rintro e w1 hp; obtain ⟨rfl, _⟩ := hp.2.1 rfl; have HP := Lib.hid hp; clear hp)
    try go_ret
    exact HP.out
  | some y =>
    obtain ⟨n, t, ks, d, rest⟩ := y
    go_wp2_with (go_at_call 66; (with_reducible refine Calls.mono HC.out ?_); rintro e w1 hp; obtain ⟨rfl, _⟩ := hp.2.2 _ _ _ _ _ rfl; have HP := Lib.hid hp; clear hp)
    try go_ret
    exact HP.out
theorem one_any (rb xb at_ R : Nat) (s : ByteArray) (op : Int) (w : World) (hs : s.size ≤ 16384) (hRR : R ≤ 64) (ha : at_ ≤ s.size) (hR : Rd rb s at_ w) (hX : Xs xb op 0 ⟨#[]⟩ (.slice none 0 0) 1 w) (hL : LibOk w) (hne : xb ≠ rb) (h6 : 6 ≤ rb) (h6' : 6 ≤ xb)
    (hT : TermAt rb R s) :
    Calls Tryd.prog 58 #[.pointer (some ⟨rb, 0, none⟩), .pointer (some ⟨xb, 0, none⟩), .int .i64 (R + 1)] w (RestPost rb xb s op (kidsO R 1 (s.data.toList.drop at_)) w) := by
  have HC : Hid (Calls Tryd.prog 66 #[.pointer (some ⟨rb, 0, none⟩), .pointer (some ⟨xb, 0, none⟩), .int .i64 1, .int .i64 (R + 1)] w (RestPost rb xb s op (kidsO R 1 (s.data.toList.drop at_)) w)) := kids_rest rb xb at_ R s op w hs hRR ha hR hX hL hne h6 h6' hT 1 (by decide)
  obtain ⟨o, ho⟩ : ∃ o, kidsO R 1 (s.data.toList.drop at_) = o := ⟨_, rfl⟩
  rw [ho] at HC ⊢
  clear hT
  refine (one_calls rb xb R s op o w HC.out)
theorem two_any (rb xb at_ R : Nat) (s : ByteArray) (op : Int) (w : World) (hs : s.size ≤ 16384) (hRR : R ≤ 64) (ha : at_ ≤ s.size) (hR : Rd rb s at_ w) (hX : Xs xb op 0 ⟨#[]⟩ (.slice none 0 0) 1 w) (hL : LibOk w) (hne : xb ≠ rb) (h6 : 6 ≤ rb) (h6' : 6 ≤ xb)
    (hT : TermAt rb R s) :
    Calls Tryd.prog 59 #[.pointer (some ⟨rb, 0, none⟩), .pointer (some ⟨xb, 0, none⟩), .int .i64 (R + 1)] w (RestPost rb xb s op (kidsO R 2 (s.data.toList.drop at_)) w) := by
  have HC : Hid (Calls Tryd.prog 66 #[.pointer (some ⟨rb, 0, none⟩), .pointer (some ⟨xb, 0, none⟩), .int .i64 2, .int .i64 (R + 1)] w (RestPost rb xb s op (kidsO R 2 (s.data.toList.drop at_)) w)) := kids_rest rb xb at_ R s op w hs hRR ha hR hX hL hne h6 h6' hT 2 (by decide)
  obtain ⟨o, ho⟩ : ∃ o, kidsO R 2 (s.data.toList.drop at_) = o := ⟨_, rfl⟩
  rw [ho] at HC ⊢
  clear hT
  refine (two_calls rb xb R s op o w HC.out)
end Go.Proofs.YtlheoipengndnabDoor
