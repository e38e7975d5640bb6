/- term: TermOpens. -/
import Derived.Test.YtbdimlppnhcicaaGreatDoorWa
import Derived.Test.YtbdimlppnhcicaaGreatDoorSame
import Derived.Test.YtbdimlppnhcicaaGreatDoorVa
namespace Go.Proofs.YtbdimlppnhcicaaGreatDoor
set_option linter.unusedVariables false
open Go.RowKit
theorem kids_strs {B : Nat} {o : Option Addr} {m c : Nat} {ks : List (List UInt8)} {w : World} (h : KidsAt B (.slice o m c) ks w) :
    ks.length = m ∧ StrsAt o (ks.map fun k => (⟨k.toArray⟩ : ByteArray)) w := by
  obtain ⟨vs, hvs, hown⟩ := h
  have e : (ks.map fun k => (⟨k.toArray⟩ : ByteArray)) = vs := by
    rw [← hvs, List.map_map]
    have : ((fun k : List UInt8 => (⟨k.toArray⟩ : ByteArray)) ∘ fun v : ByteArray => v.data.toList) = id := by
      funext v; apply ByteArray.ext; simp
    rw [this, List.map_id]
  rw [e, ← hvs, List.length_map]
  rcases Nat.eq_zero_or_pos vs.length with h0 | hpos
  · obtain rfl := List.length_eq_zero_iff.1 h0
    refine ⟨?_, .inl rfl⟩
    rcases hown.2 with ⟨h, _⟩ | ⟨g, cap, cur, h, _⟩
    · cases h; rfl
    · cases h; rfl
  · obtain ⟨g, cap, e1, _, e3⟩ := own_cells hown hpos
    cases e1
    exact ⟨rfl, .inr ⟨g, 0, rfl, fun k s hk => by rw [Nat.zero_add]; exact e3 k _ (by rw [List.getElem?_map, hk]; rfl)⟩⟩
/-- an opened term's four cells, and whether it was right -/
structure Op4 where
  op : Nat
  n : Nat
  u : ByteArray
  vs : List ByteArray
  b : Bool
def op4 (l : List UInt8) : Op4 := match readP l with
  | some x => ⟨x.op.toNat, x.n, ⟨x.text.toArray⟩, x.kids.map fun k => (⟨k.toArray⟩ : ByteArray), true⟩
  | none => ⟨0, 0, ⟨#[]⟩, [], false⟩
def OneForm (q : Op4) (w : World) (e : Ending) (w' : World) : Prop :=
  Below w.heap.size w w' ∧ ∃ o k, e = .returned (.tuple #[.agg #[.int .u8 q.op, .int .i64 q.n, .string q.u, .slice o q.vs.length k], .bool q.b]) ∧ StrsAt o q.vs w'
theorem one_form {l : List UInt8} {w w' : World} {e : Ending} (h : OpenPost (readP l) w e w') : OneForm (op4 l) w e w' := by
  obtain ⟨hb, hno, hyes⟩ := h
  refine ⟨hb, ?_⟩
  unfold op4
  cases hx : readP l with
  | none => exact ⟨none, 0, hno hx, .inl rfl⟩
  | some x =>
    obtain ⟨u, ko, km, kc, rfl, hu, hK⟩ := hyes x hx
    obtain ⟨h1, h2⟩ := kids_strs hK
    refine ⟨ko, kc, ?_, h2⟩
    simp only [List.length_map]
    rw [h1, ← hu]
end Go.Proofs.YtbdimlppnhcicaaGreatDoor
