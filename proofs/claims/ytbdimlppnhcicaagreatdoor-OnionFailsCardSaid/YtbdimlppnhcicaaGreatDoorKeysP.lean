/- term: public keys of joined and bound secrets, as values. No walk here. -/
import Derived.Test.YtbdimlppnhcicaaGreatDoorPlainD
namespace Go.Proofs.YtbdimlppnhcicaaGreatDoor
set_option linter.unusedVariables false
def pubK (v : ByteArray) : Bool := isPub v.data.toList
/-- what Joint, Bound answer -/
def jointV (a b : ByteArray) : Value := if rt a && rt b && pubK a && pubK b then buildV ⟨#[87]⟩ [a, b] else errTerm
def boundV (a p : ByteArray) : Value := if rt a && pubK a then buildV ⟨#[76]⟩ [a, p] else errTerm
theorem jointV_form (a b : ByteArray) : ∃ s n, jointV a b = .tuple #[.string s, .int .i64 n] := by
  unfold jointV
  split
  · exact buildV_tuple _ _
  · exact ⟨_, _, rfl⟩
theorem boundV_form (a b : ByteArray) : ∃ s n, boundV a b = .tuple #[.string s, .int .i64 n] := by
  unfold boundV
  split
  · exact buildV_tuple _ _
  · exact ⟨_, _, rfl⟩
theorem right_of {l : List UInt8} {R : Nat} {x : Sh} (hR : R ≤ 64) (hl : l.length ≤ 16384) (h : parse R l = some (x, [])) : rightB l = true ∧ readP l = some x := by
  have : readP l = some x := by
    unfold readP
    rw [if_pos hl, parse_le hR h]
  exact ⟨by unfold rightB; rw [this]; rfl, this⟩
/-- two terms that are not too deep, side by side -/
theorem make_two {op : UInt8} {a b : List UInt8} (har : arity op = some 2) (ha : rightB a = true) (hb : rightB b = true) (da : deepN a ≤ 63) (db : deepN b ≤ 63) (hl : a.length + b.length < 16384) (hf : fitsB op [a, b] = true) :
    rightB (op :: (a ++ b)) = true ∧ readP (op :: (a ++ b)) = some ⟨op, 0, [], [a, b], max (deepN a + 1) (max (deepN b + 1) 1)⟩ := by
  obtain ⟨xa, hxa⟩ := right_read ha
  obtain ⟨xb, hxb⟩ := right_read hb
  rw [deep_of hxa] at da ⊢
  rw [deep_of hxb] at db ⊢
  have ga := (parse_deep 64 a xa [] (read_parse hxa).1).2.2
  have gb := (parse_deep 64 b xb [] (read_parse hxb).1).2.2
  have h := parse_two har (parse_le (Nat.le_max_left xa.deep xb.deep) ga) (parse_le (Nat.le_max_right xa.deep xb.deep) gb) hf
  exact right_of (by omega) (by rw [List.length_cons, List.length_append]; omega) h
theorem keyS_list (a : ByteArray) : (keyS a).data.toList = keyB a.data.toList := by unfold keyS; rw [ba_list]
/-- the key of a right term that is not too deep, nor long, is right -/
theorem key_right {a : ByteArray} (ha : rt a = true) (da : deepN a.data.toList ≤ 63) (hl : a.size ≤ 8192) : rt (keyS a) = true := by
  obtain ⟨x, hx⟩ := right_read ha
  obtain ⟨y, hy⟩ := key_parse _ _ (Nat.le_refl _) x hx
  rw [deep_of hx] at da
  have h1 := keyB_length _ _ (Nat.le_refl _) ha
  rw [list_size] at h1
  unfold rt
  rw [keyS_list]
  exact (right_of (R := x.deep + 1) (by omega) (by omega) hy).1
theorem keys_plain {a b pa pb : ByteArray} (hl : a.size + b.size ≤ 5000) (da : deepN a.data.toList ≤ 60) (db : deepN b.data.toList ≤ 60) (hp : pubV a = .tuple #[.string pa, .int .i64 0]) (hq : pubV b = .tuple #[.string pb, .int .i64 0]) :
    ∃ j k pj pk, buildV ⟨#[86]⟩ [a, b] = .tuple #[.string j, .int .i64 0] ∧ buildV ⟨#[75]⟩ [a, b] = .tuple #[.string k, .int .i64 0] ∧ j.size ≤ 5001 ∧ k.size ≤ 5001 ∧
      pubV j = .tuple #[.string pj, .int .i64 0] ∧ pubV k = .tuple #[.string pk, .int .i64 0] ∧ jointV pa pb = .tuple #[.string pj, .int .i64 0] ∧ boundV pa b = .tuple #[.string pk, .int .i64 0] ∧ pj ≠ pk ∧ (pa = pb ↔ a = b) ∧ pa.size ≤ 32768 ∧ pb.size ≤ 32768 := by
  obtain ⟨ra, rfl, rpa⟩ := pubV_ok hp
  obtain ⟨rb, rfl, rpb⟩ := pubV_ok hq
  have la : a.data.toList.length = a.size := list_size a
  have lb : b.data.toList.length = b.size := list_size b
  obtain ⟨j1, j2⟩ := make_two (op := 86) (by rfl) ra rb (by omega) (by omega) (by omega) rfl
  obtain ⟨k1, k2⟩ := make_two (op := 75) (by rfl) ra rb (by omega) (by omega) (by omega) rfl
  have two : ∀ op : UInt8, rightB (op :: (a.data.toList ++ b.data.toList)) = true → buildV ⟨#[op]⟩ [a, b] = .tuple #[.string ⟨(op :: (a.data.toList ++ b.data.toList)).toArray⟩, .int .i64 0] := by
    intro op h
    rw [buildV_right (by intro v hv; simp at hv; rcases hv with rfl | rfl <;> assumption), buildL_two]
    exact wholeV_yes (by unfold rt; rw [ba_list]; exact h)
  have sz : ∀ op : UInt8, (⟨(op :: (a.data.toList ++ b.data.toList)).toArray⟩ : ByteArray).size ≤ 5001 := by
    intro op
    rw [← list_size, ba_list, List.length_cons, List.length_append]; omega
  have pub : ∀ (op : UInt8), rightB (op :: (a.data.toList ++ b.data.toList)) = true → deepN (op :: (a.data.toList ++ b.data.toList)) ≤ 63 → pubV ⟨(op :: (a.data.toList ++ b.data.toList)).toArray⟩ = .tuple #[.string (keyS ⟨(op :: (a.data.toList ++ b.data.toList)).toArray⟩), .int .i64 0] := by
    intro op h d
    have hr : rt ⟨(op :: (a.data.toList ++ b.data.toList)).toArray⟩ = true := by unfold rt; rw [ba_list]; exact h
    unfold pubV
    rw [if_pos hr]
    exact wholeV_yes (key_right hr (by rw [ba_list]; exact d) (by have := sz op; omega))
  have kj : (keyS ⟨(86 :: (a.data.toList ++ b.data.toList)).toArray⟩).data.toList = 87 :: (keyB a.data.toList ++ keyB b.data.toList) := by
    rw [keyS_list, ba_list, keyB_86 j2 rfl]; rfl
  have kk : (keyS ⟨(75 :: (a.data.toList ++ b.data.toList)).toArray⟩).data.toList = 76 :: (keyB a.data.toList ++ b.data.toList) := by
    rw [keyS_list, ba_list, keyB_75 k2 rfl]; rfl
  have dj : deepN (86 :: (a.data.toList ++ b.data.toList)) ≤ 63 := by rw [deep_of j2]; simp only []; omega
  have dk : deepN (75 :: (a.data.toList ++ b.data.toList)) ≤ 63 := by rw [deep_of k2]; simp only []; omega
  have pA : pubK (keyS a) = true := by unfold pubK; rw [keyS_list]; exact keyB_pub ra
  have pB : pubK (keyS b) = true := by unfold pubK; rw [keyS_list]; exact keyB_pub rb
  refine ⟨_, _, _, _, two 86 j1, two 75 k1, sz 86, sz 75, pub 86 j1 dj, pub 75 k1 dk, ?_, ?_, ?_, ⟨fun e => keyS_inj ra rb e, fun e => by rw [e]⟩, keyS_size a ra, keyS_size b rb⟩
  · unfold jointV
    rw [rpa, rpb, pA, pB]
    simp only [Bool.and_self, if_true]
    rw [buildV_right (by intro v hv; simp at hv; rcases hv with rfl | rfl <;> assumption), buildL_two, keyS_list, keyS_list]
    have e : (⟨(87 :: (keyB a.data.toList ++ keyB b.data.toList)).toArray⟩ : ByteArray) = keyS ⟨(86 :: (a.data.toList ++ b.data.toList)).toArray⟩ := ba_ext (by rw [kj, ba_list])
    rw [e]
    exact wholeV_yes (key_right (by unfold rt; rw [ba_list]; exact j1) (by rw [ba_list]; exact dj) (by have := sz 86; omega))
  · unfold boundV
    rw [rpa, pA]
    simp only [Bool.and_self, if_true]
    rw [buildV_right (by intro v hv; simp at hv; rcases hv with rfl | rfl <;> assumption), buildL_two, keyS_list]
    have e : (⟨(76 :: (keyB a.data.toList ++ b.data.toList)).toArray⟩ : ByteArray) = keyS ⟨(75 :: (a.data.toList ++ b.data.toList)).toArray⟩ := ba_ext (by rw [kk, ba_list])
    rw [e]
    exact wholeV_yes (key_right (by unfold rt; rw [ba_list]; exact k1) (by rw [ba_list]; exact dk) (by have := sz 75; omega))
  · intro e
    have := congrArg (fun x : ByteArray => x.data.toList) e
    simp only [kj, kk] at this
    simp at this
end Go.Proofs.YtbdimlppnhcicaaGreatDoor
