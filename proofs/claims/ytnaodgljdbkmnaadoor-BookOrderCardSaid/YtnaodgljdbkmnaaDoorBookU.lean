/- a call of a book as an argument -/
import Derived.Test.YtnaodgljdbkmnaaDoorBookT
import Derived.Test.YtnaodgljdbkmnaaDoorBookM
namespace Go.Proofs.YtnaodgljdbkmnaaDoor
set_option linter.unusedVariables false
open Go.ChangeShapes Go.WideShapes Go.ChangeAt Go.RowKit Go.Deep
set_option maxRecDepth 100000 in
theorem open_op1 {H : Type} {enc : TypeId × Value → H} {w : World} {base0 : Nat} {spare : Nat → Bool} {held : Bool} {r : Reach} {b0 : Nat} {v : Value} {d : DataW H} {p : List MemPlace} (hv : Value.okWide Tryd.prog w r b0 50 v) (h : DataW.Trod enc Tryd.prog w base0 spare held 50 v d p) :
    ∃ o : Opr, v = .agg o.cells.toArray ∧ o.t.size ≤ maxLen ∧ o.s.size ≤ maxLen := by
  obtain ⟨cs, rfl, hsz⟩ := okWide_struct Tryd.underlying50 hv
  obtain ⟨l⟩ := cs
  have hC : Tryd.prog.cellsOf 50 = 7 := by kernel_rfl
  obtain ⟨fuel, hf⟩ := h
  obtain ⟨o, ho, _, _, h1, h2⟩ := open_op (hsz.trans hC) hf
  refine ⟨o, ?_, h1, h2⟩
  exact congrArg (fun l => Value.agg (List.toArray l)) ho
theorem bookOrder_ops (p q : Opr) (a : Option Addr) (cp : Nat) (ops : List Opr) (w : World) (hpt : p.t.size ≤ maxLen) (hps : p.s.size ≤ maxLen) (hqt : q.t.size ≤ maxLen) (hqs : q.s.size ≤ maxLen) (hm : ops.length ≤ maxLen) (ho : OpsAt w a ops) (hL : LibOk w) :
    Calls Tryd.prog 9 #[.agg p.cells.toArray, .agg q.cells.toArray, .slice a ops.length cp] w fun e w' => e = .returned (.bool true) ∧ Below w.heap.size w w' :=
  bookOrder_any p.kind p.a p.n p.e p.h q.kind q.a q.n q.e q.h p.t p.s q.t q.s a cp ops w hpt hps hqt hqs hm ho hL
end Go.Proofs.YtnaodgljdbkmnaaDoor
