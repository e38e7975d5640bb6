/- tlv: Unknown, the document's Unknown. -/
import Derived.Calls
import Derived.WalkKit
import Derived.WalkSpells
import Derived.WalkLawsBesides
import Derived.Handy
import Derived.Lib.Hide
import Derived.Deep.AppendLies
import Derived.Deep.LoopGhost
import Derived.Outline
import Derived.Laws.BitsAllLaws
import Derived.Laws.BitsLemmas
import Derived.Lib.AppendZeros
import Derived.Lib.AppendZerosOnto
import Derived.Maps.AppendAt
import Derived.Laws.Append
import Derived.Laws.AppendOwn
import Derived.Deep.QuietTactic
import Derived.BigQuiet
import Derived.Deep.RegionHeld3
import Derived.Lib.ConvBytes
import Derived.Laws.BytesArg
import Derived.Test.YtakfhoodjcfpcaaDoorRows
import Derived.Test.YtakfhoodjcfpcaaDoorPl
import Derived.Test.YtakfhoodjcfpcaaDoorTlF
import Derived.Test.YtakfhoodjcfpcaaDoorTlH
import Derived.Test.YtakfhoodjcfpcaaDoorTlI
import Derived.Test.YtakfhoodjcfpcaaDoorTlR
namespace Go.Proofs.YtakfhoodjcfpcaaDoor.T
set_option linter.unusedVariables false
open Go.RowKit Tlv

/-- these numbers lie there -/
def Nums (w : World) (a : Option Addr) (K : List Int) : Prop := K = [] ∨ ∃ b off, a = some ⟨b, off, none⟩ ∧ ∀ (k : Nat) (x : Int), K[k]? = some x → w.cell? ⟨b, off + k, none⟩ = some (.int .u64 x)
theorem Nums.below {w w' : World} {a : Option Addr} {K : List Int} (h : Nums w a K) (hb : Below w.heap.size w w') : Nums w' a K := by
  rcases h with h | ⟨b, off, ha, hk⟩
  · exact .inl h
  · exact .inr ⟨b, off, ha, fun k x hx => cell_later hb (hk k x hx)⟩
def hasN (K : List Int) (x : Int) : Bool := K.any (x == ·)
theorem has_at {K : List Int} {x : Int} (h : hasN K x = true) : ∃ k : Nat, K[k]? = some x ∧ ∀ i, i < k → ∀ y, K[i]? = some y → (x == y) = false := by
  induction K with
  | nil => simp [hasN] at h
  | cons a K ih =>
    cases ha : (x == a) with
    | true => exact ⟨0, by simp at ha; subst ha; rfl, fun i hi => by omega⟩
    | false =>
      have : hasN K x = true := by simp only [hasN, List.any_cons, ha, Bool.false_or] at h; exact h
      obtain ⟨k, h1, h2⟩ := ih this
      refine ⟨k + 1, by simpa using h1, fun i hi y hy => ?_⟩
      cases i with
      | zero => simp at hy; subst hy; exact ha
      | succ i => exact h2 i (by omega) y (by simpa using hy)
theorem has_not {K : List Int} {x : Int} (h : hasN K x = false) : ∀ (i : Nat) (y : Int), K[i]? = some y → (x == y) = false := fun i y hy => by
  unfold hasN at h
  rw [List.any_eq_false] at h
  have := h y (List.mem_of_getElem? hy)
  simpa using this
set_option maxRecDepth 100000 in
set_option maxHeartbeats 2000000 in
theorem index_yes (x : Int) (a : Option Addr) (c : Nat) (K : List Int) (w : World) (hm : K.length ≤ 100) (k : Nat) (h1 : K[k]? = some x) (h2 : ∀ i, i < k → ∀ y, K[i]? = some y → (x == y) = false) (hK : Nums w a K) :
    Calls Tryd.prog 64 #[.slice a K.length c, .int .u64 x] w fun e w' => e = .returned (.int .i64 (k : Int)) ∧ w = w' := by
  have HK := Lib.hid hK; have H1 := Lib.hid h1; have H2 := Lib.hid h2
  have hkl : k < K.length := (List.getElem?_eq_some_iff.1 h1).1
  clear hK h1 h2
  go_enter Tryd.func64, Tryd.ntmps64
  go_wp2
  go_loopw [8] (fun iv wr => ∃ j : Nat, j ≤ k ∧ iv = .int .i64 j ∧ wr = w) (fun iv _ => K.length - (intOf iv).toNat)
  case atStart => exact ⟨0, Nat.zero_le _, rfl, rfl⟩
  case round =>
    obtain ⟨j, hj, rfl, rfl⟩ := hrel
    obtain ⟨y, hy⟩ : ∃ y, K[j]? = some y := ⟨_, List.getElem?_eq_getElem (by omega)⟩
    have hne : K ≠ [] := by intro h; rw [h] at hkl; simp at hkl
    obtain ⟨b, off, rfl, hrec⟩ := HK.out.resolve_left hne
    have c0 := hrec j y hy
    have hjl : (j : Int) < (K.length : Int) := by omega
    by_cases hjk : j = k
    · subst hjk
      have hxy : y = x := by have h1 := H1.out; rw [hy] at h1; cases h1; rfl
      subst hxy
      clear hy hrec
      go_wp2
      go_ret
      exact ⟨rfl, rfl⟩
    · have hq : (x == y) = false := H2.out j (by omega) y hy
      clear hy hrec
      go_wp2
      go_roundw
      case rel => exact ⟨j + 1, by omega, by go_num, trivial⟩
      case measure => simp [intOf]; omega
set_option maxRecDepth 100000 in
set_option maxHeartbeats 2000000 in
theorem index_no (x : Int) (a : Option Addr) (c : Nat) (K : List Int) (w : World) (hm : K.length ≤ 100) (h2 : ∀ (i : Nat) (y : Int), K[i]? = some y → (x == y) = false) (hK : Nums w a K) :
    Calls Tryd.prog 64 #[.slice a K.length c, .int .u64 x] w fun e w' => e = .returned (.int .i64 (-1)) ∧ w = w' := by
  have HK := Lib.hid hK; have H2 := Lib.hid h2
  clear hK h2
  go_enter Tryd.func64, Tryd.ntmps64
  go_wp2
  go_loopw [8] (fun iv wr => ∃ j : Nat, j ≤ K.length ∧ iv = .int .i64 j ∧ wr = w) (fun iv _ => K.length - (intOf iv).toNat)
  case atStart => exact ⟨0, Nat.zero_le _, rfl, rfl⟩
  case round =>
    obtain ⟨j, hj, rfl, rfl⟩ := hrel
    by_cases hlt : j < K.length
    · obtain ⟨y, hy⟩ : ∃ y, K[j]? = some y := ⟨_, List.getElem?_eq_getElem hlt⟩
      have hne : K ≠ [] := by intro h; rw [h] at hlt; simp at hlt
      obtain ⟨b, off, rfl, hrec⟩ := HK.out.resolve_left hne
      have c0 := hrec j y hy
      have hjl : (j : Int) < (K.length : Int) := by omega
      have hq : (x == y) = false := H2.out j y hy
      clear hy hrec
      go_wp2
      go_roundw
      case rel => exact ⟨j + 1, by omega, by go_num, trivial⟩
      case measure => simp [intOf]; omega
    · obtain rfl : j = K.length := by omega
      go_wp2_with fail
      go_ret
      exact ⟨rfl, rfl⟩
set_option maxRecDepth 100000 in
set_option maxHeartbeats 2000000 in
theorem contains_any (x : Int) (a : Option Addr) (c : Nat) (K : List Int) (w : World) (hm : K.length ≤ 100) (hK : Nums w a K) :
    Calls Tryd.prog 57 #[.slice a K.length c, .int .u64 x] w fun e w' => e = .returned (.bool (hasN K x)) ∧ w = w' := by
  cases h : hasN K x with
  | true =>
    obtain ⟨k, h1, h2⟩ := has_at h
    have H := Lib.hid (index_yes x a c K w hm k h1 h2 hK)
    clear h1 h2 h hK
    have hk0 : (0 : Int) ≤ (k : Int) := by omega
    go_enter Tryd.func57, Tryd.ntmps57
    go_wp2_with (go_at_call 64; (with_reducible refine Calls.mono H.out ?_); rintro e w1 ⟨rfl, rfl⟩)
    go_ret
    exact ⟨rfl, rfl⟩
  | false =>
    have H := Lib.hid (index_no x a c K w hm (has_not h) hK)
    clear h hK
    go_enter Tryd.func57, Tryd.ntmps57
    go_wp2_with (go_at_call 64; (with_reducible refine Calls.mono H.out ?_); rintro e w1 ⟨rfl, rfl⟩)
    go_ret
    exact ⟨rfl, rfl⟩
def pU (K : List Int) (r : Rec) : Bool := ((r.t : Int) % 2 == 0) && !hasN K (r.t : Int)
set_option maxRecDepth 100000 in
set_option maxHeartbeats 2000000 in
theorem is_u (g : Nat) (x : Int) (hx : 0 ≤ x) (s : Value) (ka : Option Addr) (kc : Nat) (K : List Int) (w : World) (hm : K.length ≤ 100) (hg : w.cell? ⟨g, 0, none⟩ = some (.slice ka K.length kc)) (hK : Nums w ka K) :
    Calls Tryd.prog 56 #[.agg #[.int .u64 x, s], .pointer (some ⟨g, 0, none⟩)] w (BoolPost ((x % 2 == 0) && !hasN K x) w) := by
  have c0 := (cell2 w (.int .u64 x) s 43).1
  have cg := cell_later (below_new w (.cells #[.int .u64 x, s] 43)) hg
  have HC := Lib.hid (contains_any x ka kc K _ hm (hK.below (below_new w (.cells #[.int .u64 x, s] 43))))
  clear hK
  obtain ⟨h, hh⟩ : ∃ h, hasN K x = h := ⟨_, rfl⟩
  rw [hh] at HC ⊢
  cases hb : (x % 2 == 0) with
  | true =>
    go_enter Tryd.func56, Tryd.ntmps56
    go_wp2_with (go_at_call 57; (with_reducible refine Calls.mono HC.out ?_); rintro e w1 ⟨rfl, rfl⟩)
    go_ret
    exact ⟨by simp, below_new _ _⟩
  | false =>
    go_enter Tryd.func56, Tryd.ntmps56
    go_wp2_with (go_at_call 57; (with_reducible refine Calls.mono HC.out ?_); rintro e w1 ⟨rfl, rfl⟩)
    go_ret
    exact ⟨by simp, below_new _ _⟩
theorem is_u' (B : Bool) (g : Nat) (x : Int) (hx : 0 ≤ x) (s : Value) (ka : Option Addr) (kc : Nat) (K : List Int) (hB : ((x % 2 == 0) && !hasN K x) = B) (w : World) (hm : K.length ≤ 100) (hg : w.cell? ⟨g, 0, none⟩ = some (.slice ka K.length kc)) (hK : Nums w ka K) :
    Calls Tryd.prog 56 #[.agg #[.int .u64 x, s], .pointer (some ⟨g, 0, none⟩)] w (BoolPost B w) := hB ▸ is_u g x hx s ka kc K w hm hg hK
set_option maxRecDepth 100000 in
set_option maxHeartbeats 2000000 in
theorem idxU_some (g : Nat) (ka : Option Addr) (kc : Nat) (K : List Int) (a : Option Addr) (c : Nat) (L : List Rec) (k : Nat) (r : Rec) (w : World) (hm : L.length ≤ 4000) (hmk : K.length ≤ 100) (hf : IsFirst (pU K) L k r) (hr : Recs w a L) (hg : w.cell? ⟨g, 0, none⟩ = some (.slice ka K.length kc)) (hK : Nums w ka K) :
    Calls Tryd.prog 63 #[.slice a L.length c, .func (.func 56) #[] #[.pointer (some ⟨g, 0, none⟩)]] w fun e w' => e = .returned (.int .i64 (k : Int)) ∧ Below w.heap.size w w' := by
  have HR := Lib.hid hr; have HF := Lib.hid hf; have HG := Lib.hid hg; have HK := Lib.hid hK
  have hkl : k < L.length := (List.getElem?_eq_some_iff.1 hf.1).1
  clear hr hf hg hK
  go_enter Tryd.func63, Tryd.ntmps63
  go_wp2
  go_loopw [8] (fun iv wr => ∃ j : Nat, j ≤ k ∧ iv = .int .i64 j ∧ Hid (Below w.heap.size w wr)) (fun iv _ => L.length - (intOf iv).toNat)
  case atStart => exact ⟨0, Nat.zero_le _, rfl, Below.refl _ _⟩
  case round =>
    obtain ⟨j, hj, rfl, hB⟩ := hrel
    obtain ⟨s, hs⟩ : ∃ s, L[j]? = some s := ⟨_, List.getElem?_eq_getElem (by omega)⟩
    have hne : L ≠ [] := by intro h; rw [h] at hkl; simp at hkl
    obtain ⟨b, off, rfl, hrec⟩ := (HR.out.below hB.out).resolve_left hne
    obtain ⟨ai, ci, c0, c1, _, _, _⟩ := hrec j s hs
    have hgw := Lib.hid (cell_later hB.out HG.out)
    have hkw := Lib.hid (HK.out.below hB.out)
    have hjl : (j : Int) < (L.length : Int) := by omega
    have hst := HF.out
    obtain ⟨x, hx⟩ : ∃ x : Int, (s.t : Int) = x := ⟨_, rfl⟩
    have hx0 : 0 ≤ x := by omega
    rw [hx] at c0
    by_cases hjk : j = k
    · subst hjk
      have hq : Hid (((x % 2 == 0) && !hasN K x) = true) := by
        have h1 := hst.1; rw [hs] at h1; cases h1
        have := hst.2.1; unfold pU at this; rw [hx] at this; exact this
      clear hst hs hrec
      go_wp2_with (go_at_call 56; (with_reducible refine Calls.mono (is_u' true g x hx0 _ ka kc K hq.out _ hmk hgw.out hkw.out) ?_); rintro e w1 ⟨rfl, hb1⟩; have HB1 := Lib.hid hb1; clear hb1)
      go_ret
      exact ⟨rfl, hB.out.trans (HB1.out.mono hB.out.size)⟩
    · have hq : Hid (((x % 2 == 0) && !hasN K x) = false) := by
        have := hst.2.2 j (by omega) s hs; unfold pU at this; rw [hx] at this; exact this
      clear hst hs hrec
      go_wp2_with (go_at_call 56; (with_reducible refine Calls.mono (is_u' false g x hx0 _ ka kc K hq.out _ hmk hgw.out hkw.out) ?_); rintro e w1 ⟨rfl, hb1⟩; have HB1 := Lib.hid hb1; clear hb1)
      go_roundw
      case rel => exact ⟨j + 1, by omega, by go_num, hB.out.trans (HB1.out.mono hB.out.size)⟩
      case measure => simp [intOf]; omega
set_option maxRecDepth 100000 in
set_option maxHeartbeats 2000000 in
theorem idxU_none (g : Nat) (ka : Option Addr) (kc : Nat) (K : List Int) (a : Option Addr) (c : Nat) (L : List Rec) (w : World) (hm : L.length ≤ 4000) (hmk : K.length ≤ 100) (hf : ∀ r ∈ L, pU K r = false) (hr : Recs w a L) (hg : w.cell? ⟨g, 0, none⟩ = some (.slice ka K.length kc)) (hK : Nums w ka K) :
    Calls Tryd.prog 63 #[.slice a L.length c, .func (.func 56) #[] #[.pointer (some ⟨g, 0, none⟩)]] w fun e w' => e = .returned (.int .i64 (-1)) ∧ Below w.heap.size w w' := by
  have HR := Lib.hid hr; have HF := Lib.hid hf; have HG := Lib.hid hg; have HK := Lib.hid hK
  clear hr hf hg hK
  go_enter Tryd.func63, Tryd.ntmps63
  go_wp2
  go_loopw [8] (fun iv wr => ∃ j : Nat, j ≤ L.length ∧ iv = .int .i64 j ∧ Hid (Below w.heap.size w wr)) (fun iv _ => L.length - (intOf iv).toNat)
  case atStart => exact ⟨0, Nat.zero_le _, rfl, Below.refl _ _⟩
  case round =>
    obtain ⟨j, hj, rfl, hB⟩ := hrel
    by_cases hlt : j < L.length
    · obtain ⟨s, hs⟩ : ∃ s, L[j]? = some s := ⟨_, List.getElem?_eq_getElem hlt⟩
      have hne : L ≠ [] := by intro h; rw [h] at hlt; simp at hlt
      obtain ⟨b, off, rfl, hrec⟩ := (HR.out.below hB.out).resolve_left hne
      obtain ⟨ai, ci, c0, c1, _, _, _⟩ := hrec j s hs
      have hgw := Lib.hid (cell_later hB.out HG.out)
      have hkw := Lib.hid (HK.out.below hB.out)
      have hjl : (j : Int) < (L.length : Int) := by omega
      have hst := HF.out s (List.mem_of_getElem? hs)
      obtain ⟨x, hx⟩ : ∃ x : Int, (s.t : Int) = x := ⟨_, rfl⟩
      have hx0 : 0 ≤ x := by omega
      rw [hx] at c0
      have hq : Hid (((x % 2 == 0) && !hasN K x) = false) := by unfold pU at hst; rw [hx] at hst; exact hst
      clear hst hs hrec
      go_wp2_with (go_at_call 56; (with_reducible refine Calls.mono (is_u' false g x hx0 _ ka kc K hq.out _ hmk hgw.out hkw.out) ?_); rintro e w1 ⟨rfl, hb1⟩; have HB1 := Lib.hid hb1; clear hb1)
      go_roundw
      case rel => exact ⟨j + 1, by omega, by go_num, hB.out.trans (HB1.out.mono hB.out.size)⟩
      case measure => simp [intOf]; omega
    · obtain rfl : j = L.length := by omega
      go_wp2_with fail
      go_ret
      exact ⟨rfl, hB.out⟩
/-- must one be known, and is not? -/
def unkN (K : List Int) (L : List Rec) : Bool := L.any (pU K)
theorem unk_first {K : List Int} {L : List Rec} {k : Nat} {r : Rec} (h : IsFirst (pU K) L k r) : unkN K L = true := List.any_eq_true.2 ⟨r, List.mem_of_getElem? h.1, h.2.1⟩
theorem unk_none {K : List Int} {L : List Rec} (h : ∀ r ∈ L, pU K r = false) : unkN K L = false := by
  unfold unkN; rw [List.any_eq_false]; intro r hr; rw [h r hr]; decide
set_option maxRecDepth 100000 in
set_option maxHeartbeats 2000000 in
theorem unknown_any (ka : Option Addr) (kc : Nat) (K : List Int) (a : Option Addr) (c : Nat) (L : List Rec) (w : World) (hm : L.length ≤ 4000) (hmk : K.length ≤ 100) (hr : Recs w a L) (hK : Nums w ka K) :
    Calls Tryd.prog 42 #[.slice a L.length c, .slice ka K.length kc] w (BoolPost (unkN K L) w) := by
  have cg := cell1 w (.slice ka K.length kc) 94
  have hr' := hr.below (below_new w (.cells #[.slice ka K.length kc] 94))
  have hK' := hK.below (below_new w (.cells #[.slice ka K.length kc] 94))
  rcases first_or_none (pU K) L with ⟨k, r, hf⟩ | hf
  · rw [unk_first hf]
    have H := Lib.hid (idxU_some w.heap.size ka kc K a c L k r _ hm hmk hf hr' cg hK')
    have hk0 : (0 : Int) ≤ (k : Int) := by omega
    clear hr hK hr' hK' hf cg
    go_enter Tryd.func42, Tryd.ntmps42
    go_wp2_with (first | (go_at_call 63; (with_reducible refine Calls.mono H.out ?_); rintro e w1 ⟨rfl, hb1⟩; have HB1 := Lib.hid hb1; clear hb1) | go_in)
    go_ret
    exact ⟨rfl, (below_new w _).trans (HB1.out.mono (by simp))⟩
  · rw [unk_none hf]
    have H := Lib.hid (idxU_none w.heap.size ka kc K a c L _ hm hmk hf hr' cg hK')
    clear hr hK hr' hK' hf cg
    go_enter Tryd.func42, Tryd.ntmps42
    go_wp2_with (first | (go_at_call 63; (with_reducible refine Calls.mono H.out ?_); rintro e w1 ⟨rfl, hb1⟩; have HB1 := Lib.hid hb1; clear hb1) | go_in)
    go_ret
    exact ⟨rfl, (below_new w _).trans (HB1.out.mono (by simp))⟩
end Go.Proofs.YtakfhoodjcfpcaaDoor.T
