import Derived.Lib.ParseIntB
import Derived.Lib.Bytealg
import Derived.Shelf.Small.Strs
import Derived.Shelf.Strconv.Itoa0
import Derived.Shelf.Strconv.ParseIntEmpty
import Derived.Shelf.LaysM
import Derived.Shelf.Strconv.Clone
import Derived.Shelf.Strconv.SyntaxError
import Derived.Shelf.LaysC
import Derived.Shelf.Strconv.ToError
import Derived.Shelf.Strconv.Lower
import Derived.Shelf.Strconv.ParseUint10
import Derived.Shelf.Strconv.ParseUint10Empty
import Derived.Shelf.Strconv.ParseUint10Any
import Derived.Shelf.Strconv.ParseInt10
import Derived.Shelf.Strconv.RangeError
import Derived.Shelf.Strconv.ToErrorRange
import Derived.Shelf.Strconv.ParseUintEmpty
import Derived.Shelf.Strconv.ParseUint10b64
import Derived.Shelf.Strconv.ParseUint10b32
import Derived.Shelf.Strconv.ParseUint10b16
import Derived.Shelf.Strconv.ParseUint10b8
import Derived.Shelf.Strconv.ParseUint10At
import Derived.Shelf.Strconv.ParseInt10At64
import Derived.Shelf.Strconv.ParseInt10At32
import Derived.Shelf.Strconv.ParseInt10At16
import Derived.Shelf.Strconv.ParseInt10At8
import Derived.Shelf.Strconv.ParseInt10All
import Derived.Shelf.Strconv.ParseIntPublic10
import Derived.Shelf.Strconv.ErrVarParseInt
import Derived.Shelf.Strings.Search1
import Derived.WalkKit
import Derived.WalkSpells
import Derived.WalkLawsBesides
import Derived.Handy
import Derived.Lib.Hide
import Derived.Deep.QuietTactic
import Derived.BigQuiet
import Derived.Deep.RegionHeld3
import Derived.Lib.Strings
import Derived.Lib.IndexBytes
import Derived.Test.YtakfhoodjcfpcaaDoorRows
import Derived.Test.YtakfhoodjcfpcaaDoorProg
import Derived.Test.YtakfhoodjcfpcaaDoorTlF
import Derived.Test.YtakfhoodjcfpcaaDoorTlH
import Derived.Test.YtakfhoodjcfpcaaDoorTlI
import Derived.Test.YtakfhoodjcfpcaaDoorTlU
import Derived.Test.YtakfhoodjcfpcaaDoorNum
import Derived.Test.YtakfhoodjcfpcaaDoorNumA
import Derived.Test.YtakfhoodjcfpcaaDoorNumB
namespace Go.Proofs.YtakfhoodjcfpcaaDoor
open Go.RowKit

/-- what reader.number leaves: r is what the bytes at the reader's place begin with -/
def NumPost (rb : Nat) (s : ByteArray) (r : Option (Nat × List UInt8)) (w : World) (e : Ending) (w' : World) : Prop :=
  w.grownBy w' (some rb) ∧ (∃ z, Rd rb s z w') ∧ (r = none → ∃ n : Int, e = .returned (.tuple #[.int .i64 n, .bool false])) ∧
    (∀ n rest, r = some (n, rest) → e = .returned (.tuple #[.int .i64 n, .bool true]) ∧ ∃ a : Nat, a ≤ s.size ∧ Rd rb s a w' ∧ s.data.toList.drop a = rest)
theorem NumPost.no {rb : Nat} {s : ByteArray} {z : Int} {w w' : World} {r : Option (Nat × List UInt8)} {n : Int} (hr : r = none) (hR : Rd rb s z w) (hb : Below w.heap.size w w') :
    NumPost rb s r w (.returned (.tuple #[.int .i64 n, .bool false])) w' :=
  ⟨grown_below hb _, ⟨z, hR.below hb⟩, fun _ => ⟨n, rfl⟩, fun _ _ h => (by rw [hr] at h; cases h)⟩

theorem parse_nonneg (c : UInt8) (r : List UInt8) (v : Int) (h : c.toNat ≠ 45) (hp : Lib.parseIntB 64 (c :: r) = .ok v) : 0 ≤ v := by
  simp only [Lib.parseIntB, h, false_and, if_false, not_false_eq_true, true_and] at hp
  split at hp
  · cases hp
  · cases hp
  · split at hp
    · cases hp
    · injection hp with hp; omega
theorem number_any (rb at_ : Nat) (s : ByteArray) (ec : Int) (E : UInt8) (hE : ec = (E.toNat : Int)) (hn : ¬ (48 ≤ E.toNat ∧ E.toNat ≤ 57)) (w : World) (hs : s.size ≤ 16384) (ha : at_ ≤ s.size) (hR : Rd rb s at_ w) (hL : LibOk w) :
    Calls Tryd.prog 79 #[.pointer (some ⟨rb, 0, none⟩), .int .u8 ec] w (NumPost rb s (num E (s.data.toList.drop at_)) w) := by
  have hlen : s.data.toList.length = s.size := by show s.data.toList.length = s.data.size; rw [Array.length_toList]
  have e1 : (s.extract at_ s.size).data.toList = s.data.toList.drop at_ := Lib.extract_to_end s at_
  obtain ⟨k, hk⟩ : ∃ k, Lib.indexByte (s.data.toList.drop at_) E = k := ⟨_, rfl⟩
  have hk' : Lib.indexByte (s.extract at_ s.size).data.toList E = k := by rw [e1]; exact hk
  have hge := Lib.indexByte_ge (s.data.toList.drop at_) E
  rw [hk] at hge
  have early : ∀ (e : Ending) (w' : World), num E (s.data.toList.drop at_) = none → (e = .returned (.tuple #[.int .i64 0, .bool false]) ∧ Below w.heap.size w w') → NumPost rb s (num E (s.data.toList.drop at_)) w e w' := by
    rintro e w' hnone ⟨rfl, hb⟩
    exact NumPost.no hnone hR hb
  by_cases k0 : k < 1
  · refine (number_a rb at_ s ec E hE w hs ha hR.c0 hR.c1 k hk' k0).mono fun e w' h => early e w' ?_ h
    by_cases h1 : k = -1
    · exact num_no E _ (by rw [hk, h1])
    · exact num_zero E _ hn (by rw [hk]; omega)
  · obtain ⟨d, t, hl, hd, hi⟩ := index_cut E (s.data.toList.drop at_) (by rw [hk]; omega)
    have hkd : (d.length : Int) = k := by rw [← hi, hk]
    have hlt : at_ + d.length < s.size := by
      have := congrArg List.length hl
      simp only [List.length_drop, List.length_append, List.length_cons, hlen] at this
      omega
    have hat : at_ < s.size := by omega
    have hc : s.data.toList.drop at_ = s[at_] :: s.data.toList.drop (at_ + 1) := by
      rw [List.drop_eq_getElem_cons (by omega)]; rfl
    rw [hc] at hk hl
    by_cases k1 : 19 < k
    · refine (number_b rb at_ s ec E hE w hs ha hR.c0 hR.c1 k hk' k1).mono fun e w' h => early e w' ?_ h
      rw [hc]
      by_cases h48 : s[at_] = 48
      · rw [h48] at hk ⊢; exact num_nought E _ (by omega)
      · exact num_many E _ _ h48 (by omega)
    · by_cases h48 : s[at_] = 48 ∧ 1 < k
      · refine (number_c rb at_ s ec E hE w hs ha hR.c0 hR.c1 k hk' h48.2 (by omega) hat h48.1).mono fun e w' h => early e w' ?_ h
        rw [hc, h48.1] 
        rw [h48.1] at hk
        exact num_nought E _ (by omega)
      · by_cases hd1 : (s[at_]).toNat < 48
        · refine (number_d rb at_ s ec E hE w hs ha hR.c0 hR.c1 k hk' (by omega) (by omega) hat (fun h => by rw [h] at hd1; exact absurd hd1 (by decide)) hd1).mono fun e w' h => early e w' ?_ h
          rw [hc]; exact num_first E _ _ (by omega)
        · by_cases hd2 : 57 < (s[at_]).toNat
          · refine (number_e rb at_ s ec E hE w hs ha hR.c0 hR.c1 k hk' (by omega) (by omega) hat hd2).mono fun e w' h => early e w' ?_ h
            rw [hc]; exact num_first E _ _ (by omega)
          · have hkn : k.toNat = d.length := by omega
            have e2 : (s.extract at_ (at_ + k.toNat)).data.toList = (s[at_] :: s.data.toList.drop (at_ + 1)).take d.length := by
              rw [Lib.extract_data, hc, hkn]
              congr 1; omega
            have hnum := num_parse E s[at_] (s.data.toList.drop (at_ + 1)) d.length (by omega) (by rw [hk, hkd]) (by omega) (fun h => by have : ¬ 1 < k := fun x => h48 ⟨h, x⟩; omega)
            rw [← e2] at hnum
            have late : ∀ (e : Ending) (w' : World) (z : Nat), w.grownBy w' (some rb) → Rd rb s z w' → (num E (s.data.toList.drop at_) = none ∧ (∃ n : Int, e = .returned (.tuple #[.int .i64 n, .bool false])) ∨ ∃ n, num E (s.data.toList.drop at_) = some (n, s.data.toList.drop z) ∧ z ≤ s.size ∧ e = .returned (.tuple #[.int .i64 n, .bool true])) → NumPost rb s (num E (s.data.toList.drop at_)) w e w' := by
              rintro e w' z hg hz (⟨h1, h2⟩ | ⟨n, h1, h2, h3⟩)
              · exact ⟨hg, ⟨z, hz⟩, fun _ => h2, fun _ _ h => (by rw [h1] at h; cases h)⟩
              · exact ⟨hg, ⟨z, hz⟩, fun h => (by rw [h1] at h; cases h), fun n' r' h => (by
                  rw [h1] at h; cases h; exact ⟨h3, z, h2, hz, rfl⟩)⟩
            have hdrop : (s[at_] :: s.data.toList.drop (at_ + 1)).drop (d.length + 1) = s.data.toList.drop (at_ + (d.length + 1)) := by
              rw [← hc, List.drop_drop]
            by_cases hok : ∃ v, Lib.parseIntB 64 (s.extract at_ (at_ + k.toNat)).data.toList = .ok v
            · obtain ⟨v, hv⟩ := hok
              rw [hv, hdrop, ← hc] at hnum
              have fin : ∀ (e : Ending) (w' : World), LatePost v rb s (at_ + (k.toNat + 1)) w e w' → NumPost rb s (num E (s.data.toList.drop at_)) w e w' := by
                rintro e w' ⟨rfl, hg, hz⟩
                refine late _ w' _ hg hz (.inr ⟨v.toNat, ?_, by omega, ?_⟩)
                · rw [hnum, hkn]
                · rw [Int.toNat_of_nonneg (by
                    rw [e2] at hv
                    cases hdl : d.length with
                    | zero => rw [hdl] at hkd; omega
                    | succ m => rw [hdl, List.take_succ_cons] at hv; exact parse_nonneg _ _ _ (by omega) hv)]
              by_cases h0 : s[at_] = 48
              · exact (number_ok0 rb at_ s ec E hE w hs hR hL k hk' (by omega) (by omega) hat h0 (by have : ¬ 1 < k := fun x => h48 ⟨h0, x⟩; omega) (by omega) (by omega) v hv (by omega)).mono fin
              · exact (number_ok1 rb at_ s ec E hE w hs hR hL k hk' (by omega) (by omega) hat h0 (by omega) (by omega) v hv (by omega)).mono fin
            · have hv : ∀ v, Lib.parseIntB 64 (s.extract at_ (at_ + k.toNat)).data.toList ≠ .ok v := fun v h => hok ⟨v, h⟩
              have hnone : num E (s.data.toList.drop at_) = none := by
                rw [hc, hnum]
                cases hp : Lib.parseIntB 64 (s.extract at_ (at_ + k.toNat)).data.toList with
                | ok v => exact absurd hp (hv v)
                | _ => rfl
              have fin : ∀ (e : Ending) (w' : World), LateBad rb s (at_ + (k.toNat + 1)) w e w' → NumPost rb s (num E (s.data.toList.drop at_)) w e w' := by
                rintro e w' ⟨h, hg, hz⟩
                exact late e w' _ hg hz (.inl ⟨hnone, h⟩)
              by_cases h0 : s[at_] = 48
              · exact (number_bad0 rb at_ s ec E hE w hs hR hL k hk' (by omega) (by omega) hat h0 (by have : ¬ 1 < k := fun x => h48 ⟨h0, x⟩; omega) (by omega) (by omega) hv (by omega)).mono fin
              · exact (number_bad1 rb at_ s ec E hE w hs hR hL k hk' (by omega) (by omega) hat h0 (by omega) (by omega) hv (by omega)).mono fin
end Go.Proofs.YtakfhoodjcfpcaaDoor
