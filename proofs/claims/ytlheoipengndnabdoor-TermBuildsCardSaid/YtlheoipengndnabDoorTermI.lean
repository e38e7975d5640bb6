import Derived.Test.YtlheoipengndnabDoorTermH
namespace Go.Proofs.YtlheoipengndnabDoor
open Go.RowKit
theorem leq_not_lt : ∀ a b : List UInt8, (Op.bytesLess a b || a == b) = !(bytesLt b a) := by
  intro a
  induction a with
  | nil => intro b; cases b <;> rfl
  | cons x a ih =>
    intro b
    cases b with
    | nil => rfl
    | cons y b =>
      have h := ih b
      simp only [bytesLt, Op.bytesLess]
      rw [show ((x :: a) == (y :: b)) = (x == y && a == b) from rfl]
      by_cases h1 : x < y
      · have h2 : ¬ y < x := by rw [UInt8.lt_iff_toNat_lt] at *; omega
        simp [h1, h2]
      · by_cases h2 : y < x
        · have h3 : x ≠ y := by rintro rfl; exact h1 h2
          simp [h1, h2, h3]
        · have h3 : x = y := UInt8.toNat_inj.mp (by rw [UInt8.lt_iff_toNat_lt] at *; omega)
          subst h3
          simp only [h1, if_false, decide_false, Bool.false_or, beq_self_eq_true, Bool.true_and]
          exact h
set_option maxRecDepth 100000 in
set_option maxHeartbeats 1000000 in
theorem fits_88 (n d : Int) (u k0 k1 : ByteArray) (g km kc : Nat) (w : World) (hg : g < w.heap.size) (hkm : 1 < km) (hk0 : w.cell? ⟨g, 0, none⟩ = some (.string k0)) (hk1 : w.cell? ⟨g, 1, none⟩ = some (.string k1)) :
    Calls Tryd.prog 47 #[.agg #[.int .u8 88, .int .i64 n, .string u, .slice (some ⟨g, 0, none⟩) km kc, .int .i64 d]] w (fun e w' => Below w.heap.size w w' ∧ e = .returned (.bool (!(bytesLt k1.toList k0.toList)))) := by
  rw [← leq_not_lt]
  go_enter Tryd.func47, Tryd.ntmps47
  go_wp2
  go_quiet (fail)
  all_goals go_wp2
  all_goals go_ret
  exact ⟨(((Fr.refl (fun _ => False) w).alloc _).drewN _).toBelow, rfl⟩
theorem own_cells {w : World} {base : Nat} {e : TypeId} {v : Value} {n : Nat} {xs : List Value} (h : w.ownsRow base e 1 v n xs) (hn : 0 < n) :
    ∃ g cap, v = .slice (some ⟨g, 0, none⟩) n cap ∧ g < w.heap.size ∧ ∀ i x, xs[i]? = some x → w.cell? ⟨g, i, none⟩ = some x := by
  rcases h.2 with ⟨_, h⟩ | ⟨g, cap, cur, h1, _, h3, _, _, _, h4⟩
  · omega
  · refine ⟨g, cap, h1, ?_, fun i x hx => ?_⟩
    · rcases Nat.lt_or_ge g w.heap.size with k | k
      · exact k
      · rw [Array.getElem?_eq_none k] at h3; cases h3
    · rw [← h4, List.getElem?_take] at hx
      split at hx
      · simp only [World.cell?, h3]
        simpa using hx
      · cases hx
theorem len_two {α : Type} {l : List α} (h : l.length = 2) : ∃ a b, l = [a, b] := by
  match l, h with
  | [a, b], _ => exact ⟨a, b, rfl⟩
theorem fits_any (base : Nat) (op : UInt8) (n d : Int) (u : ByteArray) (ko : Option Addr) (km kc : Nat) (ks : List (List UInt8)) (w : World) (hK : KidsAt base (.slice ko km kc) ks w) (hlen : ∀ k, arity op = some k → ks.length = k) (hne : ∀ c ∈ ks, c ≠ []) :
    Calls Tryd.prog 47 #[.agg #[.int .u8 op.toNat, .int .i64 n, .string u, .slice ko km kc, .int .i64 d]] w (fun e w' => Below w.heap.size w w' ∧ e = .returned (.bool (fitsB op ks))) := by
  obtain ⟨vs, rfl, hown⟩ := hK
  have hl : ∀ k, arity op = some k → vs.length = k := fun k hk => by simpa using hlen k hk
  have one : ∀ v, v ∈ vs → ∃ c l, v.data.toList = c :: l := fun v hv => by
    cases hv' : v.data.toList with
    | nil => exact absurd hv' (hne _ (List.mem_map_of_mem hv))
    | cons c l => exact ⟨c, l, rfl⟩
  by_cases h80 : op = 80
  · subst h80
    have h1 := hl 1 (by decide)
    obtain ⟨g, cap, hv, hg, hc⟩ := own_cells hown (by omega)
    cases hv
    obtain ⟨v, rfl⟩ := List.length_eq_one_iff.mp h1
    obtain ⟨c, l, hcl⟩ := one v (by simp)
    have := fits_80 n d u v g [v].length kc w hg (by simp) (hc 0 _ rfl) c l hcl
    have e : fitsB 80 (List.map (fun v => v.data.toList) [v]) = (!(c == 86) && !(c == 75)) := by simp [fitsB, nth, hcl]
    rw [e]; exact this
  by_cases h88 : op = 88
  · subst h88
    have h1 := hl 2 (by decide)
    obtain ⟨g, cap, hv, hg, hc⟩ := own_cells hown (by omega)
    cases hv
    obtain ⟨v, v', rfl⟩ := len_two h1
    have := fits_88 n d u v v' g [v, v'].length kc w hg (by simp) (hc 0 _ rfl) (hc 1 _ rfl)
    have e : fitsB 88 (List.map (fun v => v.data.toList) [v, v']) = !(bytesLt v'.toList v.toList) := by simp [fitsB, nth, ByteArray.toList_eq]
    rw [e]; exact this
  by_cases h87 : op = 87
  · subst h87
    have h1 := hl 2 (by decide)
    obtain ⟨g, cap, hv, hg, hc⟩ := own_cells hown (by omega)
    cases hv
    obtain ⟨v, v', rfl⟩ := len_two h1
    obtain ⟨c, l, hcl⟩ := one v (by simp)
    obtain ⟨c', l', hcl'⟩ := one v' (by simp)
    have := fits_87 n d u v v' g [v, v'].length kc w hg (by simp) (hc 0 _ rfl) (hc 1 _ rfl) c c' l l' hcl hcl'
    have e : fitsB 87 (List.map (fun v => v.data.toList) [v, v']) = ((c == 80 || c == 87 || c == 76) && (c' == 80 || c' == 87 || c' == 76)) := by simp [fitsB, nth, isPub, hcl, hcl']
    rw [e]; exact this
  by_cases h76 : op = 76
  · subst h76
    have h1 := hl 2 (by decide)
    obtain ⟨g, cap, hv, hg, hc⟩ := own_cells hown (by omega)
    cases hv
    obtain ⟨v, v', rfl⟩ := len_two h1
    obtain ⟨c, l, hcl⟩ := one v (by simp)
    have := fits_76 n d u v g [v, v'].length kc w hg (by simp) (hc 0 _ rfl) c l hcl
    have e : fitsB 76 (List.map (fun v => v.data.toList) [v, v']) = (c == 80 || c == 87 || c == 76) := by simp [fitsB, nth, isPub, hcl]
    rw [e]; exact this
  have ne : ∀ k : UInt8, op ≠ k → (op.toNat : Int) ≠ (k.toNat : Int) := fun k h h' => h (UInt8.toNat_inj.mp (by omega))
  have := fits_no n d op.toNat u (.slice ko km kc) w (ne 80 h80) (ne 88 h88) (ne 87 h87) (ne 76 h76)
  have e : fitsB op (List.map (fun v => v.data.toList) vs) = true := by simp [fitsB, h80, h88, h87, h76]
  rw [e]; exact this
end Go.Proofs.YtlheoipengndnabDoor
