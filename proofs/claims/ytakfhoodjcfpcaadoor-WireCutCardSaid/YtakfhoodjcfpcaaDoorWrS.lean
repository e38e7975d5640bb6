/- wire: the laws as the frames take them -/
import Derived.Test.YtakfhoodjcfpcaaDoorWrR
namespace Go.Proofs.YtakfhoodjcfpcaaDoor.T
set_option linter.unusedVariables false
open Go.RowKit Tlv Wire
/-! wire: the laws as the frames take them -/
theorem writes_law (m : Wire.Msg) (na : Option Addr) (nc : Nat) (ta : Option Addr) (tc : Nat) (ra : Option Addr) (rc : Nat) (k : Int) (w : World) (hA : MA w m na ta ra) (hm : MR m) (hk : 0 ≤ k ∧ k < 65536) (hL : LibOk w) :
    Calls Tryd.prog 3 #[.agg #[.int .u16 (m.kind : Int), .string m.chan, .slice na m.nums.length nc, .slice ta m.terms.length tc, .string m.text, .slice ra m.more.length rc], .int .u16 k] w fun e w' => e = .returned (.bool true) ∧ Below w.heap.size w w' := by
  obtain ⟨n, rfl⟩ := Int.eq_ofNat_of_zero_le hk.1
  exact writes_any m na nc ta tc ra rc n w hm hA hL
theorem reads_law (a : Option Addr) (c : Nat) (l : List UInt8) (w : World) (hc : l.length ≤ c) (hm : c ≤ maxLen) (hs : Src w a l) (hn : a = none → c = 0) (hL : LibOk w) : Calls Tryd.prog 4 #[.slice a l.length c] w fun e w' => e = .returned (.bool true) ∧ Below w.heap.size w w' := reads_any a c l w hc hm hs hn hL
theorem back_law (m : Wire.Msg) (na : Option Addr) (nc : Nat) (ta : Option Addr) (tc : Nat) (ra : Option Addr) (rc : Nat) (a : Option Addr) (c : Nat) (l : List UInt8) (w : World) (hA : MA w m na ta ra) (hm : MR m) (hc : l.length ≤ c) (hcm : c ≤ maxLen) (hs : Src w a l) (hn : a = none → c = 0) (hL : LibOk w) :
    Calls Tryd.prog 5 #[.agg #[.int .u16 (m.kind : Int), .string m.chan, .slice na m.nums.length nc, .slice ta m.terms.length tc, .string m.text, .slice ra m.more.length rc], .slice a l.length c] w fun e w' => e = .returned (.bool true) ∧ Below w.heap.size w w' := back_any m na nc ta tc ra rc a c l w hm hA hL hc hcm hs hn
theorem cut_law (m : Wire.Msg) (na : Option Addr) (nc : Nat) (ta : Option Addr) (tc : Nat) (ra : Option Addr) (rc : Nat) (at_ : Int) (w : World) (hA : MA w m na ta ra) (hm : MR m) (hL : LibOk w) :
    Calls Tryd.prog 6 #[.agg #[.int .u16 (m.kind : Int), .string m.chan, .slice na m.nums.length nc, .slice ta m.terms.length tc, .string m.text, .slice ra m.more.length rc], .int .i64 at_] w fun e w' => e = .returned (.bool true) ∧ Below w.heap.size w w' := cut_any m na nc ta tc ra rc at_ w hm hA hL
end Go.Proofs.YtakfhoodjcfpcaaDoor.T
