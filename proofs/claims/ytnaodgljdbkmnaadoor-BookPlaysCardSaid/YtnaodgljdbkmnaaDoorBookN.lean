/- invoices are compared -/
import Derived.Test.YtnaodgljdbkmnaaDoorBookL
namespace Go.Proofs.YtnaodgljdbkmnaaDoor
set_option linter.unusedVariables false
open Go.RowKit
theorem run_part_inv (a0 a1 a2 a3 a4 a5 a6 a7 : Value) (w : World) : (part 2 #[a0, a1, a2, a3, a4, a5, a6, a7] 0).run Tryd.prog w = .ok a0 w ∧ (part 2 #[a0, a1, a2, a3, a4, a5, a6, a7] 1).run Tryd.prog w = .ok a1 w ∧ (part 22 #[a0, a1, a2, a3, a4, a5, a6, a7] 2).run Tryd.prog w = .ok a2 w ∧ (part 22 #[a0, a1, a2, a3, a4, a5, a6, a7] 3).run Tryd.prog w = .ok a3 w ∧ (part 9 #[a0, a1, a2, a3, a4, a5, a6, a7] 4).run Tryd.prog w = .ok a4 w ∧ (part 2 #[a0, a1, a2, a3, a4, a5, a6, a7] 5).run Tryd.prog w = .ok a5 w ∧ (part 3 #[a0, a1, a2, a3, a4, a5, a6, a7] 6).run Tryd.prog w = .ok a6 w ∧ (part 22 #[a0, a1, a2, a3, a4, a5, a6, a7] 7).run Tryd.prog w = .ok a7 w :=
  ⟨by kernel_rfl, by kernel_rfl, by kernel_rfl, by kernel_rfl, by kernel_rfl, by kernel_rfl, by kernel_rfl, by kernel_rfl⟩
theorem run_neq_inv (w : World) (a b : Int) (h p m : ByteArray) (c d : Int) : (binOp .neq 62 (.agg #[.int .i64 a, .int .i64 b, .string h, .string p, .string m, .int .i64 c, .int .i64 d, .string ⟨#[]⟩]) (.agg #[.int .i64 a, .int .i64 b, .string h, .string p, .string m, .int .i64 c, .int .i64 d, .string ⟨#[]⟩])).run Tryd.prog w = .ok (.bool false) w := by
  have hf : (Tryd.prog.fieldsOf 62).toList.map (fun f => (f.name, f.type, f.offset)) = [("Amount", 2, 0), ("Stamp", 2, 1), ("Hash", 22, 2), ("Payee", 22, 3), ("Memo", 9, 4), ("Expiry", 2, 5), ("Delta", 3, 6), ("Sig", 22, 7)] := by kernel_rfl
  have key : ∀ (l : List Field), l.map (fun f => (f.name, f.type, f.offset)) = [("Amount", 2, 0), ("Stamp", 2, 1), ("Hash", 22, 2), ("Payee", 22, 3), ("Memo", 9, 4), ("Expiry", 2, 5), ("Delta", 3, 6), ("Sig", 22, 7)] →
      (Op.eqFields 9999 #[.int .i64 a, .int .i64 b, .string h, .string p, .string m, .int .i64 c, .int .i64 d, .string ⟨#[]⟩] #[.int .i64 a, .int .i64 b, .string h, .string p, .string m, .int .i64 c, .int .i64 d, .string ⟨#[]⟩] l).run Tryd.prog w = .ok true w := by
    intro l hl
    have hlen : l.length = 8 := by have := congrArg List.length hl; simpa using this
    match l, hlen, hl with
    | [f0, f1, f2, f3, f4, f5, f6, f7], _, hl =>
      simp only [List.map_cons, List.map_nil, List.cons.injEq, Prod.mk.injEq, and_true] at hl
      obtain ⟨⟨n0, t0, o0⟩, ⟨n1, t1, o1⟩, ⟨n2, t2, o2⟩, ⟨n3, t3, o3⟩, ⟨n4, t4, o4⟩, ⟨n5, t5, o5⟩, ⟨n6, t6, o6⟩, ⟨n7, t7, o7⟩⟩ := hl
      obtain ⟨p0, p1, p2, p3, p4, p5, p6, p7⟩ := run_part_inv (.int .i64 a) (.int .i64 b) (.string h) (.string p) (.string m) (.int .i64 c) (.int .i64 d) (.string ⟨#[]⟩) w
      simp only [Op.eqFields, n0, t0, o0, n1, t1, o1, n2, t2, o2, n3, t3, o3, n4, t4, o4, n5, t5, o5, n6, t6, o6, n7, t7, o7]
      simp only [Sem.run_bind, Sem.run_ite, p0, p1, p2, p3, p4, p5, p6, p7, Result.andThen_ok, run_equalIn_string w _ 9 m m Tryd.underlying9, run_equalIn_string w _ 22 h h Tryd.underlying22, run_equalIn_string w _ 22 p p Tryd.underlying22, run_equalIn_string w _ 22 ⟨#[]⟩ ⟨#[]⟩ Tryd.underlying22, run_equalIn_int w _ 2 .i64 .i64 _ _ Tryd.underlying2, run_equalIn_int w _ 3 .i64 .i64 _ _ Tryd.underlying3, Sem.run_pure]
      simp
  have he : (Op.equal 62 (.agg #[.int .i64 a, .int .i64 b, .string h, .string p, .string m, .int .i64 c, .int .i64 d, .string ⟨#[]⟩]) (.agg #[.int .i64 a, .int .i64 b, .string h, .string p, .string m, .int .i64 c, .int .i64 d, .string ⟨#[]⟩])).run Tryd.prog w = .ok true w := by
    unfold Op.equal Op.maxDepth
    rw [run_equalIn_agg w 9999 62 _ _ (by kernel_rfl) (by kernel_rfl)]
    exact key _ hf
  simp [binOp, he]
end Go.Proofs.YtnaodgljdbkmnaaDoor
