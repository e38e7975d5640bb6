/- tlv: the document's Size and Same. -/
import Derived.Calls
import Derived.WalkKit
import Derived.WalkSpells
import Derived.WalkLawsBesides
import Derived.Handy
import Derived.Lib.Hide
import Derived.Deep.AppendLies
import Derived.Deep.LoopGhost
import Derived.Outline
import Derived.Laws.BitsAllLaws
import Derived.Laws.BitsLemmas
import Derived.Lib.AppendZeros
import Derived.Lib.AppendZerosOnto
import Derived.Maps.AppendAt
import Derived.Laws.Append
import Derived.Laws.AppendOwn
import Derived.Deep.QuietTactic
import Derived.BigQuiet
import Derived.Deep.RegionHeld3
import Derived.Lib.ConvBytes
import Derived.Laws.BytesArg
import Derived.Test.YtakfhoodjcfpcaaDoorRows
import Derived.Test.YtakfhoodjcfpcaaDoorPl
import Derived.Test.YtakfhoodjcfpcaaDoorTlF
import Derived.Test.YtakfhoodjcfpcaaDoorTlH
import Derived.Test.YtakfhoodjcfpcaaDoorTlI
import Derived.Test.YtakfhoodjcfpcaaDoorTlM
namespace Go.Proofs.YtakfhoodjcfpcaaDoor.T
open Go.RowKit Tlv

set_option maxRecDepth 100000 in
set_option maxHeartbeats 2000000 in
/-- the same records, wherever they lie -/
theorem same_yes (a b : Option Addr) (ca cb : Nat) (L : List Rec) (w : World) (hm : L.length ≤ maxLen) (ha : Recs w a L) (hb : Recs w b L) : Calls Tryd.prog 33 #[.slice a L.length ca, .slice b L.length cb] w fun e w' => e = .returned (.bool true) ∧ Below w.heap.size w w' := by
  have HA := Lib.hid ha; have HB := Lib.hid hb
  clear ha hb
  unfold maxLen at hm
  go_enter Tryd.func33, Tryd.ntmps33
  go_wp2
  go_loopw [5] (fun iv wr => ∃ (k : Nat), k ≤ L.length ∧ iv = .int .i64 k ∧ Hid (Below w.heap.size w wr)) (fun iv _ => L.length - (intOf iv).toNat)
  case atStart => exact ⟨0, Nat.zero_le _, rfl, Below.refl _ _⟩
  case round =>
    obtain ⟨k, hk, rfl, hB⟩ := hrel
    by_cases hlt : k < L.length
    · obtain ⟨r, hr⟩ : ∃ r, L[k]? = some r := ⟨_, List.getElem?_eq_getElem hlt⟩
      have hne : L ≠ [] := by intro h; rw [h] at hlt; simp at hlt
      obtain ⟨b1, o1, rfl, hrec1⟩ := (HA.out.below hB.out).resolve_left hne
      obtain ⟨b2, o2, rfl, hrec2⟩ := (HB.out.below hB.out).resolve_left hne
      obtain ⟨ai, ci, c0, c1, cs, _, _⟩ := hrec1 k r hr
      obtain ⟨di, ei, d0, d1, ds, _, _⟩ := hrec2 k r hr
      have cv := fun n => conv_src (wr.drewN n) ai r.body ci (cs.below (below_drewN (Below.refl _ _) n))
      have dv := fun n => conv_src (wr.drewN n) di r.body ei (ds.below (below_drewN (Below.refl _ _) n))
      obtain ⟨x, hx⟩ : ∃ x : Int, (r.t : Int) = x := ⟨_, rfl⟩
      rw [hx] at c0 d0
      have hkl : (k : Int) < (L.length : Int) := by omega
      clear hr hrec1 hrec2 cs ds
      generalize (⟨r.body.toArray⟩ : ByteArray) = S at cv dv
      go_wp2_with fail
      go_quiet (fail)
      go_wp2
      go_roundw
      case rel => exact ⟨k + 1, by omega, by go_num, below_drewN hB.out _⟩
      case measure => simp [intOf]; omega
    · obtain rfl : k = L.length := by omega
      go_wp2_with fail
      go_ret
      exact ⟨rfl, hB.out⟩
end Go.Proofs.YtakfhoodjcfpcaaDoor.T
