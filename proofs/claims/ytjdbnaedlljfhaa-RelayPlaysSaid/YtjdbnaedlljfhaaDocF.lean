/- The document's Open, as one. -/
import Derived.Test.YtjdbnaedlljfhaaDocE
namespace Go.Proofs.Ytjdbnaedlljfhaa
open Go.RowKit
theorem doc_same {w w' : World} {base mb : Nat} {v : Value} {L : List Circ} (h : DocAt w base mb v L) {x : Value} {e : Ending} (he : e = .returned x) (hb : Below w.heap.size w w') : DocPost w base mb v L x e w' := ⟨v, he, h.below hb, fun _ hg => .inl hg, Fr.below hb⟩
theorem docopen_sum (mb base : Nat) (v : Value) (L : List Circ) (w : World) (h : DocAt w base mb v L) (hl : L.length ≤ 256) (c : Circ) (hc : c.fits) : Calls Try.prog 23 #[.pointer (some ⟨mb, 0, none⟩), c.val] w (DocPost w base mb v (openN L c).1 (.int .i64 (openN L c).2)) := by
  unfold openN Circ.val
  cases hm : mayB c.ic c.ii && mayB c.oc c.oi with
  | false => exact (docopen_no mb c hc w hm).mono fun e w' ⟨he, hb⟩ => doc_same h he hb
  | true =>
    rw [Bool.and_eq_true] at hm
    cases hx : findC (Circ.inIs c.ic c.ii) L 0 with
    | some x =>
      cases hy : findC (Circ.outIs c.oc c.oi) L 0 with
      | some y => exact (docopen_ss mb base v L w h hl c hc hm.1 hm.2 x hx y hy).mono fun e w' ⟨he, hb⟩ => doc_same h he hb
      | none => exact (docopen_sn mb base v L w h hl c hc hm.1 hm.2 x hx hy).mono fun e w' ⟨he, hb⟩ => doc_same h he hb
    | none =>
      cases hy : findC (Circ.outIs c.oc c.oi) L 0 with
      | some y => exact (docopen_ns mb base v L w h hl c hc hm.1 hm.2 hx y hy).mono fun e w' ⟨he, hb⟩ => doc_same h he hb
      | none =>
        by_cases hf : 256 ≤ L.length
        · simp only [Option.isSome_none, Bool.or_self, if_true, Bool.false_eq_true, if_false, hf]
          exact (docopen_full mb base v L w h hl c hc hm.1 hm.2 hx hy hf).mono fun e w' ⟨he, hb⟩ => doc_same h he hb
        · simp only [Option.isSome_none, Bool.or_self, if_true, Bool.false_eq_true, if_false, hf]
          exact docopen_yes mb base v L w h hl c hc hm.1 hm.2 hx hy (by omega)
end Go.Proofs.Ytjdbnaedlljfhaa
