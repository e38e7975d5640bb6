/- Circuits, and the relay's maps: what their operations do. -/
import Derived.Test.YtjdbnaedlljfhaaCheck
import Derived.Carry
import Derived.MapKept
import Derived.WalkLawsBesides
import Derived.Deep.Onto
import Derived.BigRegion
namespace Go.Proofs.Ytjdbnaedlljfhaa
open Go.RowKit

structure Circ where
  ic : ByteArray
  ii : Int
  oc : ByteArray
  oi : Int
  ia : Int
  oa : Int
  ie : Int
  oe : Int
  hash : ByteArray
  sh : ByteArray
def Circ.zero : Circ := ⟨⟨#[]⟩, 0, ⟨#[]⟩, 0, 0, 0, 0, 0, ⟨#[]⟩, ⟨#[]⟩⟩
def placeV (n : ByteArray) (i : Int) : Value := .agg #[.string n, .int .i64 i]
def Circ.inV (c : Circ) : Value := placeV c.ic c.ii
def Circ.outV (c : Circ) : Value := placeV c.oc c.oi
def Circ.val (c : Circ) : Value := .agg #[.string c.ic, .int .i64 c.ii, .string c.oc, .int .i64 c.oi, .int .i64 c.ia, .int .i64 c.oa, .int .i64 c.ie, .int .i64 c.oe, .string c.hash, .string c.sh]
def Circ.kept (c : Circ) : Value := .agg #[.string c.ic, .int .i64 c.ii, .string c.oc, .int .i64 c.oi, .string c.ic, .int .i64 c.ii, .string c.oc, .int .i64 c.oi, .int .i64 c.ia, .int .i64 c.oa, .int .i64 c.ie, .int .i64 c.oe, .string c.hash, .string c.sh]
def zeroKept : Value := Circ.kept Circ.zero

def sameP (n : ByteArray) (i : Int) (n' : ByteArray) (i' : Int) : Bool := n.toList == n'.toList && i == i'
def Circ.inIs (n : ByteArray) (i : Int) (c : Circ) : Bool := sameP n i c.ic c.ii
def Circ.outIs (n : ByteArray) (i : Int) (c : Circ) : Bool := sameP n i c.oc c.oi

theorem run_part0 (a b : Value) (w : World) : (part 9 #[a, b] 0).run Try.prog w = .ok a w := by kernel_rfl
theorem run_part1 (a b : Value) (w : World) : (part 2 #[a, b] 1).run Try.prog w = .ok b w := by kernel_rfl
theorem run_equal_place (w : World) (n n' : ByteArray) (i i' : Int) : (Op.equal 84 (placeV n i) (placeV n' i')).run Try.prog w = .ok (sameP n i n' i') w := by
  have hf : (Try.prog.fieldsOf 84).toList.map (fun f => (f.name, f.type, f.offset)) = [("name", 9, 0), ("id", 2, 1)] := by kernel_rfl
  obtain ⟨f0, f1, hff, h00, h01, h02, h10, h11, h12⟩ : ∃ f0 f1 : Field, (Try.prog.fieldsOf 84).toList = [f0, f1] ∧ f0.name = "name" ∧ f0.type = 9 ∧ f0.offset = 0 ∧ f1.name = "id" ∧ f1.type = 2 ∧ f1.offset = 1 := by
    generalize (Try.prog.fieldsOf 84).toList = l at hf
    rcases l with _ | ⟨a, _ | ⟨b, _ | ⟨c, r⟩⟩⟩
    · simp at hf
    · simp at hf
    · simp at hf; exact ⟨a, b, rfl, hf.1.1, hf.1.2.1, hf.1.2.2, hf.2.1, hf.2.2.1, hf.2.2.2⟩
    · simp at hf
  unfold Op.equal Op.maxDepth placeV
  rw [run_equalIn_agg w 9999 84 _ _ (by kernel_rfl) (by kernel_rfl), hff]
  simp only [Op.eqFields, h00, h01, h02, h10, h11, h12]
  simp only [Sem.run_bind, Sem.run_ite, run_part0, run_part1, Result.andThen_ok, run_equalIn_string w _ 9 n n' Try.underlying9, run_equalIn_int w _ 2 .i64 .i64 i i' Try.underlying2, Sem.run_pure]
  unfold sameP
  cases n.toList == n'.toList <;> cases i == i' <;> simp

theorem run_checkKey_place (e : Bool) (n : ByteArray) (i : Int) (w : World) : (Instr.checkKey e 10000 84 (placeV n i)).run Try.prog w = .ok () w := by kernel_rfl

/-- the first circuit of a list of which p holds, and where -/
def findC (p : Circ → Bool) : List Circ → Nat → Option (Nat × Circ)
  | [], _ => none
  | c :: r, i => if p c then some (i, c) else findC p r (i + 1)
def Lies (key : Circ → Value) (es : List MapEntry) (L : List Circ) : Prop := es.map (fun e => (e.key, e.val)) = L.map fun c => (key c, c.kept)

theorem run_find (key : Circ → Value) (p : Circ → Bool) (n : ByteArray) (i : Int) (hk : ∀ c w, (Op.equal 84 (placeV n i) (key c)).run Try.prog w = .ok (p c) w) : ∀ (es : List MapEntry) (L : List Circ) (j : Nat) (w : World), Lies key es L →
    (Instr.findAsking 84 (placeV n i) es j).run Try.prog w = .ok ((findC p L j).map fun x => (x.1, x.2.kept)) w
  | [], [], j, w, _ => rfl
  | [], _ :: _, _, _, h => by simp [Lies] at h
  | _ :: _, [], _, _, h => by simp [Lies] at h
  | e :: es, c :: L, j, w, h => by
    simp only [Lies, List.map_cons, List.cons.injEq, Prod.mk.injEq] at h
    obtain ⟨⟨h1, h2⟩, h3⟩ := h
    have := run_find key p n i hk es L (j + 1) w h3
    simp only [Instr.findAsking, h1, Sem.run_bind, hk, Result.andThen_ok, Sem.run_ite, this, findC, h2, Sem.run_pure]
    cases p c <;> simp
theorem run_findKey_place (key : Circ → Value) (p : Circ → Bool) (n : ByteArray) (i : Int) (hk : ∀ c w, (Op.equal 84 (placeV n i) (key c)).run Try.prog w = .ok (p c) w) (es : List MapEntry) (L : List Circ) (w : World) (h : Lies key es L)
    (hp : ∀ c : Circ, ∃ n' i', key c = placeV n' i') :
    (Instr.findKey 84 (placeV n i) es).run Try.prog w = .ok ((findC p L 0).map fun x => (x.1, x.2.kept)) w := by
  have hu : Try.prog.underlying 84 = some (.struct (Try.prog.fieldsOf 84)) := by kernel_rfl
  have hn : Instr.findNow (.struct (Try.prog.fieldsOf 84)) (placeV n i) es 0 = if es = [] then some none else none := by
    cases es with
    | nil => rfl
    | cons e es => rfl
  have hr := run_find key p n i hk es L 0 w h
  simp only [Instr.findKey, Sem.run_bind, run_underlying hu, Result.andThen_ok, hn]
  cases es with
  | nil =>
    cases L with
    | nil => rfl
    | cons c L => simp [Lies] at h
  | cons e es => simpa using hr
theorem key_in (n : ByteArray) (i : Int) (c : Circ) (w : World) : (Op.equal 84 (placeV n i) c.inV).run Try.prog w = .ok (c.inIs n i) w := run_equal_place w n c.ic i c.ii
theorem key_out (n : ByteArray) (i : Int) (c : Circ) (w : World) : (Op.equal 84 (placeV n i) c.outV).run Try.prog w = .ok (c.outIs n i) w := run_equal_place w n c.oc i c.oi
/-- m[k] with 'ok' -/
theorem run_look (key : Circ → Value) (p : Circ → Bool) (n : ByteArray) (i : Int) (hk : ∀ c w, (Op.equal 84 (placeV n i) (key c)).run Try.prog w = .ok (p c) w) (es : Array MapEntry) (clock mb : Nat) (L : List Circ) (w : World) (h : Lies key es.toList L)
    (hp : ∀ c : Circ, ∃ n' i', key c = placeV n' i') (hb : w.heap[mb]? = some (.map es clock)) :
    (Instr.lookup 79 (.map (some mb)) (placeV n i) true).run Try.prog w = .ok (.tuple #[((findC p L 0).map fun x => x.2.kept).getD zeroKept, .bool (findC p L 0).isSome]) w := by
  have hz : (zeroValue 88).run Try.prog w = .ok zeroKept w := by kernel_rfl
  have hf := run_findKey_place key p n i hk es.toList L w h hp
  simp only [Instr.lookup, Sem.run_bind, run_underlying Try.underlying79, Result.andThen_ok, run_getObj_map w mb es clock hb, Sem.run_pure, run_checkKey_place, hf]
  cases findC p L 0 with
  | none => simp [hz, go_sem]
  | some x => simp [go_sem]
end Go.Proofs.Ytjdbnaedlljfhaa
