/- The walks of the money functions: what each computes. -/
import Derived.Test.YtjdbnaedlljfhaaRows
import Derived.Test.YtjdbnaedlljfhaaMath
import Derived.Test.YtjdbnaedlljfhaaDiv
import Derived.Test.YtjdbnaedlljfhaaShare
import Derived.Test.YtjdbnaedlljfhaaShelf
import Derived.WalkKit
import Derived.WalkSpells
import Derived.WalkLawsBesides
import Derived.Handy
import Derived.Deep.QuietTactic
import Derived.BigQuiet
namespace Go.Proofs.Ytjdbnaedlljfhaa
open Go.RowKit

def OptPost (o : Option Int) (w : World) (e : Ending) (w' : World) : Prop :=
  Below w.heap.size w w' ∧ (∀ v, o = some v → e = .returned (.tuple #[.int .i64 v, .int .i64 0])) ∧ (o = none → e = .returned (.tuple #[.int .i64 0, .int .i64 40]))
theorem OptPost.yes {o : Option Int} {w w' : World} {v : Int} (hb : Below w.heap.size w w') (h : o = some v) : OptPost o w (.returned (.tuple #[.int .i64 v, .int .i64 0])) w' :=
  ⟨hb, fun u hu => (by rw [h] at hu; cases hu; rfl), fun hn => (by rw [h] at hn; cases hn)⟩
theorem OptPost.no {o : Option Int} {w w' : World} (hb : Below w.heap.size w w') (h : o = none) : OptPost o w (.returned (.tuple #[.int .i64 0, .int .i64 40])) w' :=
  ⟨hb, fun u hu => (by rw [h] at hu; cases hu), fun _ => rfl⟩

set_option maxHeartbeats 800000 in
theorem sum_any (b off cap : Nat) (zs : List Int) (o : Option Int) (w : World) (hlen : zs.length ≤ 1000000) (ho : sumGo 0 zs = o)
    (hc : ∀ j, j < zs.length → w.cell? ⟨b, off + j, none⟩ = some (.int .i64 (zs.getD j 0))) :
    Calls Try.prog 36 #[.slice (some ⟨b, off, none⟩) zs.length cap] w (OptPost o w) := by
  have HO := Lib.hid ho; clear ho
  have HC := Lib.hid hc; clear hc
  obtain ⟨len, hl⟩ : ∃ len, zs.length = len := ⟨_, rfl⟩
  have HL := Lib.hid hl; rw [hl] at hlen ⊢; clear hl
  go_enter Try.func36, Try.ntmps36
  go_wp2
  go_loop [4, 9] (fun n i => ∃ (k : Nat) (n' : Int), i = .int .i64 k ∧ n = .int .i64 n' ∧ k ≤ len ∧ 0 ≤ n' ∧ n' ≤ 2100000000000000000 ∧ Hid (sumGo n' (zs.drop k) = o)) (fun _ i => len - (intOf i).toNat)
  case atStart => exact ⟨0, 0, rfl, rfl, by omega, by omega, by omega, HO.out⟩
  case round =>
    obtain ⟨k, n, rfl, rfl, hk, n0, n1, hs⟩ := hrel
    by_cases hlt : k < len
    · have hck := HC.out k (by rw [HL.out]; exact hlt)
      have hd := drop_at zs k (by rw [HL.out]; exact hlt)
      generalize zs.getD k 0 = a at hck hd
      have hs' := hs.out; rw [hd] at hs'
      clear hd hs
      by_cases ha : 0 ≤ a ∧ a ≤ 2100000000000000000 - n
      · rw [sum_cons n a _ ha.1 ha.2] at hs'
        have HS : Hid _ := hs'; clear hs'
        obtain ⟨a0, a1⟩ := ha
        go_wp2
        go_round
        case rel => exact ⟨k + 1, _, by go_num, rfl, by omega, by omega, by omega, HS⟩
        case measure => simp [intOf]; omega
      · rw [sum_cons_no n a _ ha] at hs'
        have HS := Lib.hid hs'; clear hs'
        by_cases a0 : 0 ≤ a
        · have a1 : 2100000000000000000 - n < a := by omega
          clear ha
          by_cases a2 : a ≤ 2100000000000000000
          all_goals
            go_wp2
            go_ret2
            exact OptPost.no (Below.refl _ _) HS.out.symm
        · clear ha
          go_wp2
          go_ret2
          exact OptPost.no (Below.refl _ _) HS.out.symm
    · obtain rfl : k = len := by omega
      have hs' := hs.out
      rw [List.drop_of_length_le (by rw [HL.out]; exact Nat.le_refl _)] at hs'
      have HS := Lib.hid hs'; clear hs' hs
      go_wp2
      go_ret2
      exact OptPost.yes (Below.refl _ _) (by rw [← HS.out]; rfl)

end Go.Proofs.Ytjdbnaedlljfhaa
