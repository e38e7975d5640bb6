import Derived.Test.YtlheoipengndnabDoorTermE
namespace Go.Proofs.YtlheoipengndnabDoor
set_option linter.unusedVariables false
open Go.RowKit

def nameO (r : List UInt8) : Option Rest := match num 59 r with
  | none => none
  | some (n, t) => some (n, [], [], 1, t)
def textO (r : List UInt8) : Option Rest := match num 58 r with
  | none => none
  | some (n, t) => if n ≤ 4096 ∧ n ≤ t.length then some (0, t.take n, [], 1, t.drop n) else none
def tupleO (R : Nat) (r : List UInt8) : Option Rest := match num 58 r with
  | none => none
  | some (k, t) => if k ≤ 32 then kidsO R k t else none
/-- the rest of a term behind its op -/
def restP (R : Nat) (op : UInt8) (r : List UInt8) : Option Rest :=
  if op = 110 then nameO r else if op = 116 then textO r else if op = 84 then tupleO R r
  else match arity op with
    | none => none
    | some k => kidsO R k r
theorem parse_rest (R : Nat) (op : UInt8) (r : List UInt8) : parse (R + 1) (op :: r) = match restP R op r with
    | none => none
    | some (n, t, ks, d, u) => if fitsB op ks then some (⟨op, n, t, ks, d⟩, u) else none := by
  simp only [parse, restP]
  by_cases h1 : op = 110
  · subst h1
    simp only [if_true, nameO]
    cases num 59 r with
    | none => rfl
    | some y => rfl
  · simp only [if_neg h1]
    by_cases h2 : op = 116
    · subst h2
      simp only [if_true, textO]
      cases num 58 r with
      | none => rfl
      | some y =>
        obtain ⟨n, t⟩ := y
        simp only []
        split <;> rfl
    · simp only [if_neg h2, many]
      by_cases h3 : op = 84
      · subst h3
        simp only [if_true, tupleO]
        cases num 58 r with
        | none => rfl
        | some y =>
          obtain ⟨k, t⟩ := y
          simp only []
          by_cases h4 : k ≤ 32
          · simp only [if_pos h4, kidsO]
            cases kidsP (parse R) k t <;> rfl
          · simp only [if_neg h4]
      · simp only [if_neg h3]
        cases arity op with
        | none => rfl
        | some k =>
          simp only [kidsO]
          cases kidsP (parse R) k r <;> rfl

theorem RestPost.none {rb xb : Nat} {s : ByteArray} {op : Int} {w w' : World} {e : Ending} (h : FailPost rb xb s op w e w') : RestPost rb xb s op none w e w' :=
  ⟨h.2.1, fun _ => ⟨h.1, by obtain ⟨z, n, d, t, kv, h1, h2⟩ := h.2.2; exact ⟨z, n, d, t, kv, h1, h2⟩⟩, fun _ _ _ _ _ h => (by cases h)⟩
theorem name_rest (rb xb at_ R : Nat) (s : ByteArray) (op : Int) (w : World) (hs : s.size ≤ 16384) (ha : at_ ≤ s.size) (hR : Rd rb s at_ w) (hX : Xs xb op 0 ⟨#[]⟩ (.slice none 0 0) 1 w) (hL : LibOk w) (hne : xb ≠ rb) :
    Calls Tryd.prog 55 #[.pointer (some ⟨rb, 0, none⟩), .pointer (some ⟨xb, 0, none⟩), .int .i64 (R + 1)] w (RestPost rb xb s op (nameO (s.data.toList.drop at_)) w) := by
  unfold nameO
  cases hn : num 59 (s.data.toList.drop at_) with
  | none => exact (name_no rb xb at_ s op 0 1 _ _ _ w hs ha hR hX hL hne hn).mono (fun _ _ h => RestPost.none h)
  | some y =>
    obtain ⟨m, rest⟩ := y
    refine (name_yes rb xb at_ s op 0 1 _ _ _ w hs ha hR hX hL hne m rest hn).mono ?_
    rintro e w' ⟨a, h1, h2, h3, h4, h5, h6⟩
    refine ⟨h4, fun h => (by cases h), fun n t ks d u h => ?_⟩
    simp only [Option.some.injEq, Prod.mk.injEq] at h
    obtain ⟨rfl, rfl, rfl, rfl, rfl⟩ := h
    exact ⟨h3, a, ⟨#[]⟩, _, h1, h2, rfl, h5, h6, [], rfl, World.ownsRow_nil _ _ _ _⟩
theorem text_rest (rb xb at_ R : Nat) (s : ByteArray) (op : Int) (w : World) (hs : s.size ≤ 16384) (ha : at_ ≤ s.size) (hR : Rd rb s at_ w) (hX : Xs xb op 0 ⟨#[]⟩ (.slice none 0 0) 1 w) (hL : LibOk w) (hne : xb ≠ rb) :
    Calls Tryd.prog 56 #[.pointer (some ⟨rb, 0, none⟩), .pointer (some ⟨xb, 0, none⟩), .int .i64 (R + 1)] w (RestPost rb xb s op (textO (s.data.toList.drop at_)) w) := by
  unfold textO
  cases hn : num 58 (s.data.toList.drop at_) with
  | none => exact (text_no rb xb at_ s op 0 1 _ _ _ w hs ha hR hX hL hne hn).mono (fun _ _ h => RestPost.none h)
  | some y =>
    obtain ⟨m, rest⟩ := y
    simp only []
    by_cases h1 : m ≤ 4096
    · by_cases h2 : m ≤ rest.length
      · rw [if_pos ⟨h1, h2⟩]
        refine (text_yes rb xb at_ s op 0 1 _ _ _ w hs ha hR hX hL hne m rest hn (by omega) h2).mono ?_
        rintro e w' ⟨a, u, h1, h2, h3, h4, h5, h6, h7⟩
        refine ⟨h5, fun h => (by cases h), fun n t ks d u' h => ?_⟩
        simp only [Option.some.injEq, Prod.mk.injEq] at h
        obtain ⟨rfl, rfl, rfl, rfl, rfl⟩ := h
        exact ⟨h4, a, u, _, h1, h2, h3, h6, h7, [], rfl, World.ownsRow_nil _ _ _ _⟩
      · rw [if_neg (fun h => h2 h.2)]
        exact (text_short rb xb at_ s op 0 1 _ _ _ w hs ha hR hX hL hne m rest hn (by omega) (by omega)).mono (fun _ _ h => RestPost.none h)
    · rw [if_neg (fun h => h1 h.1)]
      exact (text_many rb xb at_ s op 0 1 _ _ _ w hs ha hR hX hL hne m rest hn (by omega)).mono (fun _ _ h => RestPost.none h)
theorem tuple_rest (rb xb at_ R : Nat) (s : ByteArray) (op : Int) (w : World) (hs : s.size ≤ 16384) (ha : at_ ≤ s.size) (hR : Rd rb s at_ w) (hX : Xs xb op 0 ⟨#[]⟩ (.slice none 0 0) 1 w) (hL : LibOk w) (hne : xb ≠ rb) (hRR : R ≤ 64) (h6 : 6 ≤ rb) (h6' : 6 ≤ xb) (hT : TermAt rb R s) :
    Calls Tryd.prog 57 #[.pointer (some ⟨rb, 0, none⟩), .pointer (some ⟨xb, 0, none⟩), .int .i64 (R + 1)] w (RestPost rb xb s op (tupleO R (s.data.toList.drop at_)) w) := by
  unfold tupleO
  cases hn : num 58 (s.data.toList.drop at_) with
  | none => exact tuple_no rb xb at_ R s op w hs hRR ha hR hX hL hne h6 h6' hT hn
  | some y =>
    obtain ⟨m, rest⟩ := y
    simp only []
    by_cases h1 : m ≤ 32
    · rw [if_pos h1]
      exact tuple_yes rb xb at_ R s op w hs hRR ha hR hX hL hne h6 h6' hT m rest hn (by omega)
    · rw [if_neg h1]
      exact tuple_many rb xb at_ R s op w hs hRR ha hR hX hL hne h6 h6' hT m rest hn (by omega)

/-- how the rest is read -/
def formOf (c : UInt8) : Option Nat :=
  if c = 110 then some 55 else if c = 116 then some 56 else if c = 84 then some 57 else if c = 80 then some 58 else if c = 72 then some 58 else if c = 83 then some 59 else if c = 66 then some 59 else if c = 88 then some 59 else if c = 68 then some 59 else if c = 86 then some 59 else if c = 87 then some 59 else if c = 75 then some 59 else if c = 76 then some 59 else none
def formV (rb : Nat) : Option Nat → Value
  | none => Value.nilFunc
  | some f => .func (.func f) #[.pointer (some ⟨rb, 0, .none⟩)] #[]
set_option maxRecDepth 100000 in
set_option maxHeartbeats 1000000 in
theorem form_110 (rb : Nat) (w : World) : Calls Tryd.prog 46 #[.pointer (some ⟨rb, 0, none⟩), .int .u8 110] w (fun e w' => w' = w ∧ e = .returned (formV rb (some 55))) := by
  go_enter Tryd.func46, Tryd.ntmps46
  go_wp2
  go_ret
  exact ⟨rfl, rfl⟩
set_option maxRecDepth 100000 in
set_option maxHeartbeats 1000000 in
theorem form_116 (rb : Nat) (w : World) : Calls Tryd.prog 46 #[.pointer (some ⟨rb, 0, none⟩), .int .u8 116] w (fun e w' => w' = w ∧ e = .returned (formV rb (some 56))) := by
  go_enter Tryd.func46, Tryd.ntmps46
  go_wp2
  go_ret
  exact ⟨rfl, rfl⟩
set_option maxRecDepth 100000 in
set_option maxHeartbeats 1000000 in
theorem form_84 (rb : Nat) (w : World) : Calls Tryd.prog 46 #[.pointer (some ⟨rb, 0, none⟩), .int .u8 84] w (fun e w' => w' = w ∧ e = .returned (formV rb (some 57))) := by
  go_enter Tryd.func46, Tryd.ntmps46
  go_wp2
  go_ret
  exact ⟨rfl, rfl⟩
set_option maxRecDepth 100000 in
set_option maxHeartbeats 1000000 in
theorem form_80 (rb : Nat) (w : World) : Calls Tryd.prog 46 #[.pointer (some ⟨rb, 0, none⟩), .int .u8 80] w (fun e w' => w' = w ∧ e = .returned (formV rb (some 58))) := by
  go_enter Tryd.func46, Tryd.ntmps46
  go_wp2
  go_ret
  exact ⟨rfl, rfl⟩
set_option maxRecDepth 100000 in
set_option maxHeartbeats 1000000 in
theorem form_72 (rb : Nat) (w : World) : Calls Tryd.prog 46 #[.pointer (some ⟨rb, 0, none⟩), .int .u8 72] w (fun e w' => w' = w ∧ e = .returned (formV rb (some 58))) := by
  go_enter Tryd.func46, Tryd.ntmps46
  go_wp2
  go_ret
  exact ⟨rfl, rfl⟩
set_option maxRecDepth 100000 in
set_option maxHeartbeats 1000000 in
theorem form_83 (rb : Nat) (w : World) : Calls Tryd.prog 46 #[.pointer (some ⟨rb, 0, none⟩), .int .u8 83] w (fun e w' => w' = w ∧ e = .returned (formV rb (some 59))) := by
  go_enter Tryd.func46, Tryd.ntmps46
  go_wp2
  go_ret
  exact ⟨rfl, rfl⟩
set_option maxRecDepth 100000 in
set_option maxHeartbeats 1000000 in
theorem form_66 (rb : Nat) (w : World) : Calls Tryd.prog 46 #[.pointer (some ⟨rb, 0, none⟩), .int .u8 66] w (fun e w' => w' = w ∧ e = .returned (formV rb (some 59))) := by
  go_enter Tryd.func46, Tryd.ntmps46
  go_wp2
  go_ret
  exact ⟨rfl, rfl⟩
set_option maxRecDepth 100000 in
set_option maxHeartbeats 1000000 in
theorem form_88 (rb : Nat) (w : World) : Calls Tryd.prog 46 #[.pointer (some ⟨rb, 0, none⟩), .int .u8 88] w (fun e w' => w' = w ∧ e = .returned (formV rb (some 59))) := by
  go_enter Tryd.func46, Tryd.ntmps46
  go_wp2
  go_ret
  exact ⟨rfl, rfl⟩
set_option maxRecDepth 100000 in
set_option maxHeartbeats 1000000 in
theorem form_68 (rb : Nat) (w : World) : Calls Tryd.prog 46 #[.pointer (some ⟨rb, 0, none⟩), .int .u8 68] w (fun e w' => w' = w ∧ e = .returned (formV rb (some 59))) := by
  go_enter Tryd.func46, Tryd.ntmps46
  go_wp2
  go_ret
  exact ⟨rfl, rfl⟩
set_option maxRecDepth 100000 in
set_option maxHeartbeats 1000000 in
theorem form_86 (rb : Nat) (w : World) : Calls Tryd.prog 46 #[.pointer (some ⟨rb, 0, none⟩), .int .u8 86] w (fun e w' => w' = w ∧ e = .returned (formV rb (some 59))) := by
  go_enter Tryd.func46, Tryd.ntmps46
  go_wp2
  go_ret
  exact ⟨rfl, rfl⟩
set_option maxRecDepth 100000 in
set_option maxHeartbeats 1000000 in
theorem form_87 (rb : Nat) (w : World) : Calls Tryd.prog 46 #[.pointer (some ⟨rb, 0, none⟩), .int .u8 87] w (fun e w' => w' = w ∧ e = .returned (formV rb (some 59))) := by
  go_enter Tryd.func46, Tryd.ntmps46
  go_wp2
  go_ret
  exact ⟨rfl, rfl⟩
set_option maxRecDepth 100000 in
set_option maxHeartbeats 1000000 in
theorem form_75 (rb : Nat) (w : World) : Calls Tryd.prog 46 #[.pointer (some ⟨rb, 0, none⟩), .int .u8 75] w (fun e w' => w' = w ∧ e = .returned (formV rb (some 59))) := by
  go_enter Tryd.func46, Tryd.ntmps46
  go_wp2
  go_ret
  exact ⟨rfl, rfl⟩
set_option maxRecDepth 100000 in
set_option maxHeartbeats 1000000 in
theorem form_76 (rb : Nat) (w : World) : Calls Tryd.prog 46 #[.pointer (some ⟨rb, 0, none⟩), .int .u8 76] w (fun e w' => w' = w ∧ e = .returned (formV rb (some 59))) := by
  go_enter Tryd.func46, Tryd.ntmps46
  go_wp2
  go_ret
  exact ⟨rfl, rfl⟩
set_option maxRecDepth 100000 in
set_option maxHeartbeats 1000000 in
theorem form_no (rb : Nat) (w : World) (c : Int) (h0 : 0 ≤ c) (h1 : c ≤ 255) (n110 : c ≠ 110) (n116 : c ≠ 116) (n84 : c ≠ 84) (n80 : c ≠ 80) (n72 : c ≠ 72) (n83 : c ≠ 83) (n66 : c ≠ 66) (n88 : c ≠ 88) (n68 : c ≠ 68) (n86 : c ≠ 86) (n87 : c ≠ 87) (n75 : c ≠ 75) (n76 : c ≠ 76) : Calls Tryd.prog 46 #[.pointer (some ⟨rb, 0, none⟩), .int .u8 c] w (fun e w' => w' = w ∧ e = .returned Value.nilFunc) := by
  go_enter Tryd.func46, Tryd.ntmps46
  go_wp2
  go_ret
  exact ⟨rfl, rfl⟩
theorem form_any (rb : Nat) (w : World) (c : UInt8) : Calls Tryd.prog 46 #[.pointer (some ⟨rb, 0, none⟩), .int .u8 c.toNat] w (fun e w' => w' = w ∧ e = .returned (formV rb (formOf c))) := by
  unfold formOf
  by_cases n110 : c = 110
  · subst n110; exact form_110 rb w
  simp only [if_neg n110]
  by_cases n116 : c = 116
  · subst n116; exact form_116 rb w
  simp only [if_neg n116]
  by_cases n84 : c = 84
  · subst n84; exact form_84 rb w
  simp only [if_neg n84]
  by_cases n80 : c = 80
  · subst n80; exact form_80 rb w
  simp only [if_neg n80]
  by_cases n72 : c = 72
  · subst n72; exact form_72 rb w
  simp only [if_neg n72]
  by_cases n83 : c = 83
  · subst n83; exact form_83 rb w
  simp only [if_neg n83]
  by_cases n66 : c = 66
  · subst n66; exact form_66 rb w
  simp only [if_neg n66]
  by_cases n88 : c = 88
  · subst n88; exact form_88 rb w
  simp only [if_neg n88]
  by_cases n68 : c = 68
  · subst n68; exact form_68 rb w
  simp only [if_neg n68]
  by_cases n86 : c = 86
  · subst n86; exact form_86 rb w
  simp only [if_neg n86]
  by_cases n87 : c = 87
  · subst n87; exact form_87 rb w
  simp only [if_neg n87]
  by_cases n75 : c = 75
  · subst n75; exact form_75 rb w
  simp only [if_neg n75]
  by_cases n76 : c = 76
  · subst n76; exact form_76 rb w
  simp only [if_neg n76]
  have hc : (c.toNat : Int) ≤ 255 := by have := c.toNat_lt; omega
  have ne : ∀ k : UInt8, c ≠ k → (c.toNat : Int) ≠ (k.toNat : Int) := fun k h h' => h (UInt8.toNat_inj.mp (by omega))
  exact form_no rb w c.toNat (by omega) hc (ne 110 n110) (ne 116 n116) (ne 84 n84) (ne 80 n80) (ne 72 n72) (ne 83 n83) (ne 66 n66) (ne 88 n88) (ne 68 n68) (ne 86 n86) (ne 87 n87) (ne 75 n75) (ne 76 n76)
end Go.Proofs.YtlheoipengndnabDoor
