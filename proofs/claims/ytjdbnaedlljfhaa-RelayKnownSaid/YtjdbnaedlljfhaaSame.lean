/- Circuits are compared. -/
import Derived.Test.YtjdbnaedlljfhaaOps
namespace Go.Proofs.Ytjdbnaedlljfhaa
open Go.RowKit
theorem run_part_circ (a0 a1 a2 a3 a4 a5 a6 a7 a8 a9 : Value) (w : World) :
    (part 9 #[a0, a1, a2, a3, a4, a5, a6, a7, a8, a9] 0).run Try.prog w = .ok a0 w ∧ (part 2 #[a0, a1, a2, a3, a4, a5, a6, a7, a8, a9] 1).run Try.prog w = .ok a1 w ∧ (part 9 #[a0, a1, a2, a3, a4, a5, a6, a7, a8, a9] 2).run Try.prog w = .ok a2 w ∧ (part 2 #[a0, a1, a2, a3, a4, a5, a6, a7, a8, a9] 3).run Try.prog w = .ok a3 w ∧
    (part 2 #[a0, a1, a2, a3, a4, a5, a6, a7, a8, a9] 4).run Try.prog w = .ok a4 w ∧ (part 2 #[a0, a1, a2, a3, a4, a5, a6, a7, a8, a9] 5).run Try.prog w = .ok a5 w ∧ (part 3 #[a0, a1, a2, a3, a4, a5, a6, a7, a8, a9] 6).run Try.prog w = .ok a6 w ∧ (part 3 #[a0, a1, a2, a3, a4, a5, a6, a7, a8, a9] 7).run Try.prog w = .ok a7 w ∧
    (part 22 #[a0, a1, a2, a3, a4, a5, a6, a7, a8, a9] 8).run Try.prog w = .ok a8 w ∧ (part 22 #[a0, a1, a2, a3, a4, a5, a6, a7, a8, a9] 9).run Try.prog w = .ok a9 w :=
  ⟨by kernel_rfl, by kernel_rfl, by kernel_rfl, by kernel_rfl, by kernel_rfl, by kernel_rfl, by kernel_rfl, by kernel_rfl, by kernel_rfl, by kernel_rfl⟩
theorem run_equal_circ (w : World) (c : Circ) : (Op.equal 44 c.val c.val).run Try.prog w = .ok true w := by
  have hf : (Try.prog.fieldsOf 44).toList.map (fun f => (f.name, f.type, f.offset)) = [("InChan", 9, 0), ("InID", 2, 1), ("OutChan", 9, 2), ("OutID", 2, 3), ("InAmount", 2, 4), ("OutAmount", 2, 5), ("InExpiry", 3, 6), ("OutExpiry", 3, 7), ("Hash", 22, 8), ("Shared", 22, 9)] := by kernel_rfl
  have key : ∀ (l : List Field), l.map (fun f => (f.name, f.type, f.offset)) = [("InChan", 9, 0), ("InID", 2, 1), ("OutChan", 9, 2), ("OutID", 2, 3), ("InAmount", 2, 4), ("OutAmount", 2, 5), ("InExpiry", 3, 6), ("OutExpiry", 3, 7), ("Hash", 22, 8), ("Shared", 22, 9)] →
      (Op.eqFields 9999 #[.string c.ic, .int .i64 c.ii, .string c.oc, .int .i64 c.oi, .int .i64 c.ia, .int .i64 c.oa, .int .i64 c.ie, .int .i64 c.oe, .string c.hash, .string c.sh] #[.string c.ic, .int .i64 c.ii, .string c.oc, .int .i64 c.oi, .int .i64 c.ia, .int .i64 c.oa, .int .i64 c.ie, .int .i64 c.oe, .string c.hash, .string c.sh] l).run Try.prog w = .ok true w := by
    intro l hl
    have hlen : l.length = 10 := by have := congrArg List.length hl; simpa using this
    match l, hlen, hl with
    | [f0, f1, f2, f3, f4, f5, f6, f7, f8, f9], _, hl =>
      simp only [List.map_cons, List.map_nil, List.cons.injEq, Prod.mk.injEq, and_true] at hl
      obtain ⟨⟨n0, t0, o0⟩, ⟨n1, t1, o1⟩, ⟨n2, t2, o2⟩, ⟨n3, t3, o3⟩, ⟨n4, t4, o4⟩, ⟨n5, t5, o5⟩, ⟨n6, t6, o6⟩, ⟨n7, t7, o7⟩, ⟨n8, t8, o8⟩, ⟨n9, t9, o9⟩⟩ := hl
      obtain ⟨p0, p1, p2, p3, p4, p5, p6, p7, p8, p9⟩ := run_part_circ (.string c.ic) (.int .i64 c.ii) (.string c.oc) (.int .i64 c.oi) (.int .i64 c.ia) (.int .i64 c.oa) (.int .i64 c.ie) (.int .i64 c.oe) (.string c.hash) (.string c.sh) w
      simp only [Op.eqFields, n0, n1, n2, n3, n4, n5, n6, n7, n8, n9, t0, t1, t2, t3, t4, t5, t6, t7, t8, t9, o0, o1, o2, o3, o4, o5, o6, o7, o8, o9]
      simp only [Sem.run_bind, Sem.run_ite, p0, p1, p2, p3, p4, p5, p6, p7, p8, p9, Result.andThen_ok, run_equalIn_string w _ 9 c.ic c.ic Try.underlying9, run_equalIn_string w _ 9 c.oc c.oc Try.underlying9, run_equalIn_string w _ 22 c.hash c.hash Try.underlying22, run_equalIn_string w _ 22 c.sh c.sh Try.underlying22, run_equalIn_int w _ 2 .i64 .i64 _ _ Try.underlying2, run_equalIn_int w _ 3 .i64 .i64 _ _ Try.underlying3, Sem.run_pure]
      simp
  unfold Op.equal Op.maxDepth Circ.val
  rw [run_equalIn_agg w 9999 44 _ _ (by kernel_rfl) (by kernel_rfl)]
  exact key _ hf
theorem run_neq_circ (w : World) (c : Circ) : (binOp .neq 44 (.agg #[.string c.ic, .int .i64 c.ii, .string c.oc, .int .i64 c.oi, .int .i64 c.ia, .int .i64 c.oa, .int .i64 c.ie, .int .i64 c.oe, .string c.hash, .string c.sh]) (.agg #[.string c.ic, .int .i64 c.ii, .string c.oc, .int .i64 c.oi, .int .i64 c.ia, .int .i64 c.oa, .int .i64 c.ie, .int .i64 c.oe, .string c.hash, .string c.sh])).run Try.prog w = .ok (.bool false) w := by
  have h := run_equal_circ w c
  unfold Circ.val at h
  simp [binOp, h]
end Go.Proofs.Ytjdbnaedlljfhaa
