/- term, the document's: where parts begin; fits of any parts. -/
import Derived.Test.YtlheoipengndnabDoorRefC
namespace Go.Proofs.YtlheoipengndnabDoor
set_option linter.unusedVariables false
open Go.RowKit
/-- where these parts begin and end, from p on -/
def offs (p : Nat) : List (List UInt8) → List Nat
  | [] => [p]
  | k :: ks => p :: offs (p + k.length) ks
def I (o : Nat) : Value := .int .i64 (o : Int)
theorem offs_length : ∀ (ks : List (List UInt8)) (p : Nat), (offs p ks).length = ks.length + 1
  | [], _ => rfl
  | k :: ks, p => by rw [offs, List.length_cons, offs_length ks, List.length_cons]
theorem offs_snoc : ∀ (ks : List (List UInt8)) (p : Nat) (k : List UInt8), offs p (ks ++ [k]) = offs p ks ++ [p + ks.flatten.length + k.length]
  | [], p, k => by simp [offs]
  | x :: ks, p, k => by
    rw [List.cons_append, offs, offs, offs_snoc ks (p + x.length) k, List.cons_append, List.flatten_cons, List.length_append]
    congr 3; omega
theorem offs_at : ∀ (ks : List (List UInt8)) (p i : Nat), i ≤ ks.length → (offs p ks)[i]? = some (p + (ks.take i).flatten.length)
  | [], p, i, h => by
    obtain rfl : i = 0 := by simpa using h
    rfl
  | k :: ks, p, 0, _ => rfl
  | k :: ks, p, i + 1, h => by
    rw [offs, List.getElem?_cons_succ, offs_at ks (p + k.length) i (by simpa using h), List.take_succ_cons, List.flatten_cons, List.length_append]
    congr 1; omega
/-- the i-th part lies between the i-th place and the next -/
theorem part_at (l r : List UInt8) (st : Nat) (ks : List (List UInt8)) (h : l.drop st = ks.flatten ++ r) (i : Nat) (k : List UInt8) (hk : ks[i]? = some k) : l.drop (st + (ks.take i).flatten.length) = k ++ ((ks.drop (i + 1)).flatten ++ r) := by
  have hi := (List.getElem?_eq_some_iff.1 hk).1
  have e : ks.flatten = (ks.take i).flatten ++ (k ++ (ks.drop (i + 1)).flatten) := by
    conv => lhs; rw [← List.take_append_drop i ks, List.flatten_append, List.drop_eq_getElem_cons hi, List.flatten_cons]
    rw [show ks[i] = k by rw [List.getElem?_eq_getElem hi] at hk; exact Option.some.inj hk]
  rw [← List.drop_drop, h, e, List.append_assoc, List.drop_left, List.append_assoc]
theorem byte_at (s : ByteArray) (p : Nat) (c : UInt8) (l : List UInt8) (h : s.data.toList.drop p = c :: l) : ∃ hp : p < s.size, s[p] = c := by
  have hp : p < s.size := by
    rcases Nat.lt_or_ge p s.size with h' | h'
    · exact h'
    · rw [drop_nil s p h'] at h; cases h
  refine ⟨hp, ?_⟩
  rw [drop_cons s p hp] at h
  exact (List.cons.inj h).1
theorem own_offs {w : World} {base n : Nat} {a : Option Addr} {m c : Nat} {os : List Nat} (h : w.ownsRow base 3 1 (.slice a m c) n (os.map I)) (hn : 0 < n) : ∃ g, a = some ⟨g, 0, none⟩ ∧ g < w.heap.size ∧ m = n ∧ ∀ (i o : Nat), os[i]? = some o → w.cell? ⟨g, i, none⟩ = some (.int .i64 (o : Int)) := by
  obtain ⟨g, cap, hv, hg, hc⟩ := own_cells h hn
  cases hv
  exact ⟨g, rfl, hg, rfl, fun i o ho => hc i _ (by rw [List.getElem?_map, ho]; rfl)⟩
theorem rfits_any (e0 d0 n0 f0 : Int) (base : Nat) (ko : Option Addr) (km kc at_ st : Nat) (s : ByteArray) (w : World) (c : UInt8) (ks : List (List UInt8)) (r : List UInt8) (hat : at_ < s.size) (hc : s[at_] = c) (hst : s.data.toList.drop st = ks.flatten ++ r)
    (hown : w.ownsRow base 3 1 (.slice ko km kc) (ks.length + 1) ((offs st ks).map I)) (hlen : ∀ k, arity c = some k → ks.length = k) (hne : ∀ x ∈ ks, x ≠ []) :
    Calls Tryd.prog 54 #[.string s, .int .i64 at_, .agg #[.int .i64 e0, .int .i64 d0, .int .u64 n0, .int .i64 f0, .slice ko km kc]] w (fun e w' => Below w.heap.size w w' ∧ e = .returned (.bool (fitsB c ks))) := by
  obtain ⟨g, rfl, hg, rfl, hcell⟩ := own_offs hown (by omega)
  have one : ∀ v, v ∈ ks → ∃ c l, v = c :: l := fun v hv => by
    cases v with
    | nil => exact absurd rfl (hne _ hv)
    | cons c l => exact ⟨c, l, rfl⟩
  by_cases h80 : c = 80
  · subst h80
    obtain ⟨k0, rfl⟩ := List.length_eq_one_iff.mp (hlen 1 (by decide))
    obtain ⟨c0, l0, rfl⟩ := one k0 (by simp)
    have hp := part_at _ r st _ hst 0 _ rfl
    obtain ⟨hp0, hp1⟩ := byte_at s _ c0 _ (by simpa using hp)
    have e : fitsB 80 [c0 :: l0] = (!(c0 == 86) && !(c0 == 75)) := by simp [fitsB, nth]
    rw [e]
    exact rfits_80 e0 d0 n0 f0 g _ kc st at_ s w hg (by simp) (hcell 0 st rfl) hat hp0 hc c0 hp1
  by_cases h76 : c = 76
  · subst h76
    obtain ⟨k0, k1, rfl⟩ := len_two (hlen 2 (by decide))
    obtain ⟨c0, l0, rfl⟩ := one k0 (by simp)
    have hp := part_at _ r st _ hst 0 _ rfl
    obtain ⟨hp0, hp1⟩ := byte_at s _ c0 _ (by simpa using hp)
    have e : fitsB 76 [c0 :: l0, k1] = (c0 == 80 || c0 == 87 || c0 == 76) := by simp [fitsB, nth, isPub]
    rw [e]
    exact rfits_76 e0 d0 n0 f0 g _ kc st at_ s w hg (by simp) (hcell 0 st rfl) hat hp0 hc c0 hp1
  by_cases h87 : c = 87
  · subst h87
    obtain ⟨k0, k1, rfl⟩ := len_two (hlen 2 (by decide))
    obtain ⟨c0, l0, rfl⟩ := one k0 (by simp)
    obtain ⟨c1, l1, rfl⟩ := one k1 (by simp)
    have hp := part_at _ r st _ hst 0 _ rfl
    obtain ⟨hp0, hp1⟩ := byte_at s _ c0 _ (by simpa using hp)
    have hq := part_at _ r st _ hst 1 _ rfl
    obtain ⟨hq0, hq1⟩ := byte_at s (st + (c0 :: l0).length) c1 _ (by simpa using hq)
    have e : fitsB 87 [c0 :: l0, c1 :: l1] = ((c0 == 80 || c0 == 87 || c0 == 76) && (c1 == 80 || c1 == 87 || c1 == 76)) := by simp [fitsB, nth, isPub]
    rw [e]
    exact rfits_87 e0 d0 n0 f0 g _ kc st _ at_ s w hg (by simp) (hcell 0 st rfl) (hcell 1 _ rfl) hat hp0 hq0 hc c0 hp1 c1 hq1
  by_cases h88 : c = 88
  · subst h88
    obtain ⟨k0, k1, rfl⟩ := len_two (hlen 2 (by decide))
    have hp := part_at _ r st _ hst 0 _ rfl
    have hq := part_at _ r st _ hst 1 _ rfl
    simp only [List.take_zero, List.flatten_nil, List.length_nil, Nat.add_zero] at hp
    simp only [List.take_succ_cons, List.take_zero, List.flatten_cons, List.flatten_nil, List.append_nil] at hq
    have h1 := congrArg List.length hq
    rw [drop_len] at h1
    have h0 := congrArg List.length hp
    rw [drop_len] at h0
    simp only [List.length_append] at h1 h0
    have key := rfits_88 e0 d0 n0 f0 g ([k0, k1].length + 1) kc st (st + k0.length) (st + k0.length + k1.length) at_ s w hg (by simp) (hcell 0 st rfl) (hcell 1 _ rfl) (hcell 2 _ rfl) hat (by omega) (by omega) (by
      have := hne k1 (by simp)
      have : 0 < k1.length := List.length_pos_iff.2 this
      omega) hc
    rw [hp, hq, show st + k0.length - st = k0.length by omega, show st + k0.length + k1.length - (st + k0.length) = k1.length by omega, List.take_left, List.take_left] at key
    have e : fitsB 88 [k0, k1] = !(bytesLt k1 k0) := by simp [fitsB, nth]
    rw [e]; exact key
  have e : fitsB c ks = true := by simp [fitsB, h80, h88, h87, h76]
  rw [e]
  exact rfits_no _ ⟨_, _, _, _, _, rfl⟩ at_ s w hat c hc h80 h88 h87 h76
end Go.Proofs.YtlheoipengndnabDoor
