/- seed: what a store tells, in plain words. -/
import Derived.Test.YtnaodgljdbkmnaaDoorSeedF
namespace Go.Proofs.YtnaodgljdbkmnaaDoor
set_option linter.unusedVariables false
open Go.RowKit
/-- what a store keeps, when that was heard -/
def StOk (g : Nat → Spot) (H : List (List UInt8)) : Prop := ∃ sp, SpOk sp (lowest H) ∧ ∀ b, g b = if b ≤ 20 then (sp b).map (fun p => (p, valP H p)) else none
theorem StOk.nil : StOk (fun _ => none) [] := ⟨fun _ => none, sp_nil, fun b => by split <;> rfl⟩
theorem StOk.at {g : Nat → Spot} {H : List (List UInt8)} (h : StOk g H) {b p : Nat} {v : List UInt8} (hb : g b = some (p, v)) : b ≤ 20 ∧ lowest H ≤ p ∧ p ≤ TOP ∧ keptP (lowest H) p ∧ lowP p = b ∧ v = valP H p := by
  obtain ⟨sp, hS, hg⟩ := h
  rw [hg b] at hb
  by_cases h20 : b ≤ 20
  · rw [if_pos h20] at hb
    cases hsp : sp b with
    | none => rw [hsp] at hb; cases hb
    | some q =>
      rw [hsp] at hb
      simp only [Option.map_some, Option.some.injEq, Prod.mk.injEq] at hb
      obtain ⟨rfl, rfl⟩ := hb
      obtain ⟨h1, h2, h3, h4⟩ := (hS b h20 q).1 hsp
      exact ⟨h20, h1, h2, h3, h4, rfl⟩
  · rw [if_neg h20] at hb; cases hb
theorem StOk.has {g : Nat → Spot} {H : List (List UInt8)} (h : StOk g H) {p : Nat} (h1 : lowest H ≤ p) (h2 : p ≤ TOP) (h3 : keptP (lowest H) p) : g (lowP p) = some (p, valP H p) := by
  obtain ⟨sp, hS, hg⟩ := h
  rw [hg, if_pos (low_le p), (hS _ (low_le p) p).2 ⟨h1, h2, h3, rfl⟩]; rfl
theorem st_makes {g : Nat → Spot} {H : List (List UInt8)} (h : StOk g H) (hl : H.length ≤ TOP) (t : List UInt8) : AddOk g t (lowP (TOP - H.length)) ↔ Makes H (TOP - H.length) t := by
  have hlow : lowest H = TOP - H.length + 1 := by unfold lowest; omega
  generalize hi : TOP - H.length = i at hlow ⊢
  constructor
  · intro hA p h1 h2 h3 h4
    have h5 := (inB_iff (low_mod i)).1 h4
    exact hA (lowP p) (low_lt (by omega) h5.2) p (valP H p) (h.has h1 h2 h3)
  · intro hM b hb p v hg
    obtain ⟨_, h1, h2, h3, h4, rfl⟩ := h.at hg
    refine hM p h1 h2 h3 ((inB_iff (low_mod i)).2 ⟨by omega, ?_⟩)
    rcases Nat.lt_or_ge p (i + 2 ^ lowP i) with h5 | h5
    · exact h5
    · have hk : keptP i p := (kept_next (by omega)).2 ⟨hlow ▸ h3, fun hin => by
        have := (inB_iff (low_mod i)).1 hin.symm
        omega⟩
      have := low_gt hk h5 (by have : TOP = 1048575 := rfl; omega)
      omega
theorem st_snoc {g : Nat → Spot} {H : List (List UInt8)} (h : StOk g H) (hl : H.length ≤ TOP) (t : List UInt8) : StOk (newG g (lowP (TOP - H.length)) (TOP - H.length) t) (H ++ [t]) := by
  obtain ⟨e1, e2⟩ := lowest_snoc H t hl
  obtain ⟨sp, hS, hg⟩ := h
  have hn := val_new H t hl
  generalize hi : TOP - H.length = i at e1 e2 hn ⊢
  rw [e2] at hS
  refine ⟨fun b => if b < lowP i then none else if b = lowP i then some i else sp b, by rw [e1]; exact sp_snoc hS (by omega), fun b => ?_⟩
  have hlo := low_le i
  unfold newG
  dsimp only
  by_cases h1 : b = lowP i
  · subst h1
    simp only [if_true, if_pos hlo, Nat.lt_irrefl, if_false]
    show _ = some (i, valP (H ++ [t]) i)
    rw [hn]
  · rw [if_neg h1]
    by_cases h2 : b < lowP i
    · rw [if_pos h2, if_pos (by omega), if_pos h2]; rfl
    · rw [if_neg h2, if_neg h2, if_neg h1, hg b]
      by_cases h20 : b ≤ 20
      · rw [if_pos h20, if_pos h20]
        cases hsp : sp b with
        | none => rfl
        | some p =>
          obtain ⟨k1, k2, _, _⟩ := (hS b h20 p).1 hsp
          show some (p, valP H p) = some (p, valP (H ++ [t]) p)
          rw [val_old H t p (by omega) k2]
      · rw [if_neg h20, if_neg h20]
theorem st_get {g : Nat → Spot} {H : List (List UInt8)} (h : StOk g H) (hG : Good H) {i : Nat} (h1 : lowest H ≤ i) (h2 : i ≤ TOP) {w : World} {e : Ending} {w' : World} (hp : GetPost g i w e w') : e = .returned (.tuple #[.string ⟨(valP H i).toArray⟩, .int .i64 0]) ∧ Below w.heap.size w w' := by
  obtain ⟨hc, hb⟩ := hp
  refine ⟨?_, hb⟩
  rcases hc with ⟨b, p, v, hb, hg, hq, rfl⟩ | ⟨hno, _⟩
  · obtain ⟨_, k1, k2, k3, k4, rfl⟩ := h.at hg
    have := hG.makes p k1 k2 k3 i h2 (by unfold inB; rw [k4]; exact hq)
    rw [k4] at this
    unfold onV
    rw [this]
  · obtain ⟨p, k1, k2, k3, k4⟩ := kept_covers (lowest H) i h1
    have := h.has k1 (by omega) k3
    exact absurd k4 (hno (lowP p) (by have := low_le p; omega) p _ this)
theorem st_kept {g : Nat → Spot} {H : List (List UInt8)} (h : StOk g H) (hl : H.length ≤ TOP + 1) : keptG g 21 = keptN H := by
  obtain ⟨sp, hS, hg⟩ := h
  rw [kept_count hl hS]
  unfold keptG
  congr 1
  apply List.filter_congr
  intro b hb
  have hb := List.mem_range.1 hb
  rw [hg b, if_pos (by omega)]
  cases sp b <;> rfl
theorem st_place {g : Nat → Spot} {H : List (List UInt8)} (h : StOk g H) : ∀ b p v, g b = some (p, v) → p ≤ 1048575 := fun b p v hg => (h.at hg).2.2.1
theorem st_right {g : Nat → Spot} {H : List (List UInt8)} (h : StOk g H) (hG : Good H) : ∀ b p v, g b = some (p, v) → rightB v = true := fun b p v hg => by
  obtain ⟨_, k1, k2, _, _, rfl⟩ := h.at hg
  exact hG.right p k1 k2
/-- a store that has heard this -/
def St (w : World) (sb : Nat) (H : List (List UInt8)) : Prop := Good H ∧ ∃ g, StOk g H ∧ StAt w sb g H.length
theorem St.lt {w : World} {sb : Nat} {H : List (List UInt8)} (h : St w sb H) : sb < w.heap.size := by
  obtain ⟨_, g, _, h⟩ := h; exact h.lt
theorem St.below {w w' : World} {sb : Nat} {H : List (List UInt8)} (h : St w sb H) (hb : Below w.heap.size w w') : St w' sb H := by
  obtain ⟨hG, g, hO, hA⟩ := h; exact ⟨hG, g, hO, hA.below hb⟩
theorem St.fr {w w' : World} {sb sb' : Nat} {H : List (List UInt8)} (h : St w sb H) (hb : Fr (Only sb') w w') (hne : sb ≠ sb') : St w' sb H := by
  obtain ⟨hG, g, hO, hA⟩ := h; exact ⟨hG, g, hO, (hb.block sb hA.lt hne).trans hA⟩
theorem new_st (w : World) : Calls Tryd.prog 16 #[] w fun e w' => e = .returned (.pointer (some ⟨w.heap.size, 0, none⟩)) ∧ St w' w.heap.size [] ∧ Below w.heap.size w w' :=
  (new_any w).mono fun e w' ⟨he, hs, hb⟩ => ⟨he, ⟨good_nil, _, StOk.nil, hs⟩, hb⟩
open Classical in
noncomputable def addX (H : List (List UInt8)) (i : Int) (t : ByteArray) : Int :=
  if i < 0 ∨ i ≠ 1048575 - (H.length : Int) then 2 else if rt t = false then 10 else if Makes H (TOP - H.length) t.data.toList then 0 else 150
open Classical in
noncomputable def addH (H : List (List UInt8)) (i : Int) (t : ByteArray) : List (List UInt8) := if addX H i t = 0 then H ++ [t.data.toList] else H
theorem add_st (sb : Nat) (H : List (List UInt8)) (w : World) (h : St w sb H) (i : Int) (t : ByteArray) (ht : t.size ≤ maxLen) (hL : LibOk w) (hT : Tab w) (hD : Bru w) : Calls Tryd.prog 17 #[.pointer (some ⟨sb, 0, none⟩), .int .i64 i, .string t] w fun e w' => e = .returned (.int .i64 (addX H i t)) ∧ St w' sb (addH H i t) ∧ Fr (Only sb) w w' := by
  obtain ⟨hG, g, hO, hA⟩ := h
  have hm := hG.many
  have hTOP : TOP = 1048575 := rfl
  unfold addH
  by_cases h1 : i < 0 ∨ i ≠ 1048575 - (H.length : Int)
  · have e : addX H i t = 2 := by unfold addX; rw [if_pos h1]
    rw [e]
    exact (add_arg sb g H.length w hA (by omega) i t h1).mono fun e w' ⟨he, hb⟩ => ⟨he, by rw [if_neg (by decide)]; exact ⟨hG, g, hO, hA.below hb⟩, Fr.below hb⟩
  · have h0 : 0 ≤ i := by omega
    have h2 : i = 1048575 - (H.length : Int) := by omega
    cases hr : rt t with
    | false =>
      have e : addX H i t = 10 := by unfold addX; rw [if_neg h1, if_pos hr]
      rw [e]
      exact (add_term sb g H.length w hA (by omega) i t h0 h2 ht hr hL).mono fun e w' ⟨he, hb⟩ => ⟨he, by rw [if_neg (by decide)]; exact ⟨hG, g, hO, hA.below hb⟩, Fr.below hb⟩
    | true =>
      have hn : i = ((TOP - H.length : Nat) : Int) := by omega
      have hl : H.length ≤ TOP := by omega
      have hmk := st_makes hO hl t.data.toList
      have C := add_walk sb g H.length w hA (TOP - H.length) t (by omega) (st_place hO) hr hL hT hD
      rw [← hn] at C
      refine C.mono fun e w' hp => ?_
      rcases hp with ⟨he, hno, hb⟩ | ⟨he, hok, hs, hf⟩
      · have e : addX H i t = 150 := by unfold addX; rw [if_neg h1, if_neg (by rw [hr]; decide), if_neg (fun hM => hno (hmk.2 hM))]
        rw [e]
        exact ⟨he, by rw [if_neg (by decide)]; exact ⟨hG, g, hO, hA.below hb⟩, Fr.below hb⟩
      · have e : addX H i t = 0 := by unfold addX; rw [if_neg h1, if_neg (by rw [hr]; decide), if_pos (hmk.1 hok)]
        rw [e]
        refine ⟨he, ?_, hf⟩
        rw [if_pos rfl]
        refine ⟨good_snoc hG hl hr (hmk.1 hok), _, st_snoc hO hl _, ?_⟩
        rw [List.length_append]
        exact hs
/-- what Get tells -/
def getV (H : List (List UInt8)) (i : Int) : Value := if 1048575 < i ∨ i ≤ 1048575 - (H.length : Int) then .tuple #[.string ⟨#[]⟩, .int .i64 5] else .tuple #[.string ⟨(valP H i.toNat).toArray⟩, .int .i64 0]
theorem get_st (sb : Nat) (H : List (List UInt8)) (w : World) (h : St w sb H) (i : Int) (hL : LibOk w) (hT : Tab w) : Calls Tryd.prog 20 #[.pointer (some ⟨sb, 0, none⟩), .int .i64 i] w fun e w' => e = .returned (getV H i) ∧ Below w.heap.size w w' := by
  obtain ⟨hG, g, hO, hA⟩ := h
  have hm := hG.many
  have hTOP : TOP = 1048575 := rfl
  unfold getV
  by_cases h1 : 1048575 < i ∨ i ≤ 1048575 - (H.length : Int)
  · rw [if_pos h1]
    exact get_out sb g H.length w hA (by omega) i h1
  · rw [if_neg h1]
    obtain ⟨n, rfl⟩ : ∃ n : Nat, i = (n : Int) := ⟨i.toNat, by omega⟩
    rw [Int.toNat_natCast]
    exact (get_walk sb g H.length w hA (by omega) n (by omega) (by omega) (st_right hO hG) hL hT).mono fun e w' hp => st_get hO hG (by unfold lowest; omega) (by omega) hp
theorem kept_st (sb : Nat) (H : List (List UInt8)) (w : World) (h : St w sb H) : Calls Tryd.prog 19 #[.pointer (some ⟨sb, 0, none⟩)] w fun e w' => e = .returned (.int .i64 (keptN H)) ∧ Below w.heap.size w w' := by
  obtain ⟨hG, g, hO, hA⟩ := h
  rw [← st_kept hO hG.many]
  exact kept_any sb g H.length w hA
theorem count_st (sb : Nat) (H : List (List UInt8)) (w : World) (h : St w sb H) : Calls Tryd.prog 18 #[.pointer (some ⟨sb, 0, none⟩)] w fun e w' => e = .returned (.int .i64 H.length) ∧ Below w.heap.size w w' := by
  obtain ⟨hG, g, hO, hA⟩ := h
  exact count_any sb g H.length w hA
theorem copy_st (sb : Nat) (H : List (List UInt8)) (w : World) (h : St w sb H) : Calls Tryd.prog 23 #[.pointer (some ⟨sb, 0, none⟩)] w fun e w' => e = .returned (.pointer (some ⟨w.heap.size, 0, none⟩)) ∧ St w' w.heap.size H ∧ Below w.heap.size w w' := by
  obtain ⟨hG, g, hO, hA⟩ := h
  exact (copy_any sb g H.length w hA).mono fun e w' ⟨he, hs, hb⟩ => ⟨he, ⟨hG, g, hO, hs⟩, hb⟩
end Go.Proofs.YtnaodgljdbkmnaaDoor
