/- tlv: strings of bytes, bytes of strings. -/
import Derived.Calls
import Derived.WalkKit
import Derived.WalkSpells
import Derived.WalkLawsBesides
import Derived.Handy
import Derived.Lib.Hide
import Derived.Deep.AppendLies
import Derived.Deep.LoopGhost
import Derived.Outline
import Derived.Laws.BitsAllLaws
import Derived.Laws.BitsLemmas
import Derived.Lib.AppendZeros
import Derived.Lib.AppendZerosOnto
import Derived.Maps.AppendAt
import Derived.Laws.Append
import Derived.Laws.AppendOwn
import Derived.Deep.QuietTactic
import Derived.BigQuiet
import Derived.Deep.RegionHeld3
import Derived.Lib.ConvBytes
import Derived.Laws.BytesArg
import Derived.Test.YtakfhoodjcfpcaaDoorRows
import Derived.Test.YtakfhoodjcfpcaaDoorTlA
import Derived.Test.YtakfhoodjcfpcaaDoorTlD
namespace Go.Proofs.YtakfhoodjcfpcaaDoor.T
open Go.RowKit Tlv
/-- string(b), where nothing may lie, too -/
theorem conv_src (w : World) (a : Option Addr) (l : List UInt8) (c : Nat) (hs : Src w a l) : (convert 33 9 (.slice a l.length c)).run Tryd.prog w = .ok (.string ⟨l.toArray⟩) w := by
  cases a with
  | none =>
    have h0 : l = [] := by
      rcases hs with h | ⟨_, _, h, _⟩
      · exact h
      · cases h
    subst h0
    exact run_convert_bytes_nil w 33 5 Tryd.underlying33 Tryd.underlying5 0 c 9 Tryd.underlying9
  | some ad =>
    refine run_convert_bytes_back w 33 9 5 ad c l Tryd.underlying33 Tryd.underlying5 Tryd.underlying9 fun j hj => ?_
    rcases hs with h | ⟨b, off, e, hk⟩
    · subst h; exact absurd hj (by simp)
    · cases e
      rw [Addr.add_lit]
      exact hk j _ (List.getElem?_eq_getElem hj)
theorem conv_back (w : World) (S : ByteArray) : (convert 9 33 (.string S)).run Tryd.prog w = .ok (.slice (some ⟨w.heap.size, 0, none⟩) S.size (grownCap w S.size 0 5)) (Lib.bytesWorld w 5 S) := Lib.run_convert_string_bytes w 9 33 5 S Tryd.underlying9 Tryd.underlying33 Tryd.underlying5
theorem back_below (w : World) (S : ByteArray) : Below w.heap.size w (Lib.bytesWorld w 5 S) :=
  ⟨rfl, rfl, rfl, by rw [Lib.bytesWorld_size]; omega, fun k hk => Lib.bytesWorld_at_old w 5 S k hk⟩
theorem back_src (w : World) (l : List UInt8) : Src (Lib.bytesWorld w 5 ⟨l.toArray⟩) (some ⟨w.heap.size, 0, none⟩) l := by
  refine .inr ⟨_, _, rfl, fun k c hk => ?_⟩
  have hlt := (List.getElem?_eq_some_iff.1 hk).1
  rw [Nat.zero_add, Lib.bytesWorld_cell w 5 ⟨l.toArray⟩ k (by simpa [ByteArray.size] using hlt)]
  simp only [bv, List.getD_eq_getElem?_getD, hk, Option.getD_some]
end Go.Proofs.YtakfhoodjcfpcaaDoor.T
