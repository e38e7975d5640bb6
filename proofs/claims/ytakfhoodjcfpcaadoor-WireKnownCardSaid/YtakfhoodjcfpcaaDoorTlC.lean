/- tlv: the document's Put. -/
import Derived.Calls
import Derived.WalkKit
import Derived.WalkSpells
import Derived.WalkLawsBesides
import Derived.Handy
import Derived.Lib.Hide
import Derived.Deep.AppendLies
import Derived.Deep.LoopGhost
import Derived.Outline
import Derived.Test.YtakfhoodjcfpcaaDoorRows
import Derived.Test.YtakfhoodjcfpcaaDoorPl
namespace Go.Proofs.YtakfhoodjcfpcaaDoor.T
open Go.RowKit
theorem be_next {A l : List UInt8} {m n : Nat} {x : UInt8} (h : A = l ++ Tlv.be (m + 1) n) (hx : UInt8.ofNat (n / 256 ^ m) = x) : A = (l ++ [x]) ++ Tlv.be m n := by
  rw [h, Tlv.be, hx]; simp

end Go.Proofs.YtakfhoodjcfpcaaDoor.T
