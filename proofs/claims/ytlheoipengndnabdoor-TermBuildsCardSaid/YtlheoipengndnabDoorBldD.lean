/- term: build: a head, then all the parts, each right, and the whole right. -/
import Derived.Test.YtlheoipengndnabDoorBldC
namespace Go.Proofs.YtlheoipengndnabDoor
set_option linter.unusedVariables false
open Go.RowKit
/-- strings that lie in a row -/
def StrsAt (o : Option Addr) (vs : List ByteArray) (w : World) : Prop := vs = [] ∨ ∃ b off, o = some ⟨b, off, none⟩ ∧ ∀ (k : Nat) (s : ByteArray), vs[k]? = some s → w.cell? ⟨b, off + k, none⟩ = some (.string s)
theorem StrsAt.below {o : Option Addr} {vs : List ByteArray} {w w' : World} (h : StrsAt o vs w) (hb : Below w.heap.size w w') : StrsAt o vs w' :=
  h.imp id fun ⟨b, off, e, hc⟩ => ⟨b, off, e, fun k s hk => (hb.cell (p := ⟨b, off + k, none⟩) (World.block_lt_of_cell? w _ (hc k s hk))).trans (hc k s hk)⟩
theorem builder_later {B b : Nat} {p : Value} {bs : List Value} {w w' : World} (h : Lib.BuilderAtF 61 5 B b p bs w) (hb : Below w.heap.size w w') : Lib.BuilderAtF 61 5 B b p bs w' := by
  have hlt := h.lt
  obtain ⟨hB, v, hbk, hown, hne⟩ := h
  exact ⟨hB, v, (hb.block b hlt).trans hbk, hown.kept (row := none) ⟨hb.os, hb.tape, hb.output, hb.size, fun k hk _ => hb.block k hk⟩ (by cases hv : v.ownBlock <;> simp), hne⟩
def rt (v : ByteArray) : Bool := rightB v.data.toList
def buildL (head : ByteArray) (vs : List ByteArray) : List UInt8 := head.data.toList ++ vs.flatMap (fun v => v.data.toList)
def wholeV (t : ByteArray) : Value := .tuple (if rt t then #[.string t, .int .i64 0] else #[.string ⟨#[]⟩, .int .i64 3])
def buildV (head : ByteArray) (vs : List ByteArray) : Value := if vs.all rt then wholeV ⟨(buildL head vs).toArray⟩ else .tuple #[.string ⟨#[]⟩, .int .i64 10]
theorem wholeV_any (t : ByteArray) (w : World) (hm : t.size ≤ maxLen) (hL : LibOk w) : Calls Tryd.prog 25 #[.string t] w fun e w' => e = .returned (wholeV t) ∧ Below w.heap.size w w' := whole_any t w hm hL
theorem right_size {v : ByteArray} (h : rt v = true) : v.size ≤ 16384 := by
  rw [← list_size]
  unfold rt rightB readP at h
  split at h
  · assumption
  · cases h
theorem buildL_size (head : ByteArray) (vs : List ByteArray) (h : ∀ v ∈ vs, v.size ≤ 16384) : (buildL head vs).length ≤ head.size + vs.length * 16384 := by
  induction vs with
  | nil => simp [buildL]
  | cons v vs ih =>
    have h1 := ih (fun v' hv => h v' (by simp [hv]))
    have h2 := h v (by simp)
    rw [← list_size] at h2
    simp only [buildL, List.flatMap_cons, List.length_append, List.length_cons] at h1 ⊢
    omega
theorem buildL_take (head : ByteArray) (vs : List ByteArray) (j : Nat) (s : ByteArray) (hs : vs[j]? = some s) : buildL head (vs.take (j + 1)) = buildL head (vs.take j) ++ s.data.toList := by
  have hi := (List.getElem?_eq_some_iff.1 hs).1
  rw [List.take_succ_eq_append_getElem hi, show vs[j] = s by rw [List.getElem?_eq_getElem hi] at hs; exact Option.some.inj hs]
  simp [buildL, List.append_assoc]
set_option maxRecDepth 100000 in
set_option maxHeartbeats 4000000 in
theorem build_any (head : ByteArray) (o : Option Addr) (vs : List ByteArray) (n c : Nat) (w : World) (hn : vs.length = n) (hn2 : n ≤ 1000) (hh : head.size ≤ 100000) (hv : ∀ v ∈ vs, v.size ≤ maxLen) (hS : StrsAt o vs w) (hL : LibOk w) :
    Calls Tryd.prog 32 #[.string head, .slice o n c] w fun e w' => e = .returned (buildV head vs) ∧ Below w.heap.size w w' := by
  have HN := Lib.hid hn
  have HS := Lib.hid hS
  have HL := Lib.hid hL
  have HV := Lib.hid hv
  have hI : Hid (Lib.IsBuilderF 61 5 w.heap.size w.heap.size (Lib.byteCells []) (w.alloc (.cells #[.pointer none, .slice none 0 0] 61))) := Lib.IsBuilderF.of (Lib.fresh_isBuilder 61 5 w)
  clear hn hS hL hv
  go_enter Tryd.func32, Tryd.ntmps32
  go_upto_region 2 with fail
  have B0 := Lib.hid (below_new' w (.cells #[.pointer none, .slice none 0 0] 61))
  generalize w.alloc (.cells #[.pointer none, .slice none 0 0] 61) = w0 at hI B0 ⊢
  obtain ⟨bb, hbb⟩ : ∃ bb, w.heap.size = bb := ⟨_, rfl⟩
  have HBB := Lib.hid hbb
  rw [hbb] at hI ⊢
  have hb0 : bb ≤ w0.heap.size := by have := B0.out.size; omega
  clear hbb
  have HW := Lib.hid (WriteString_any bb bb _ head w0 hI.out (by rw [Lib.byteCells_length]; simp; omega) hb0)
  go_wp2_with (go_at_call 43; (with_reducible refine Calls.mono HW.out ?_); rintro e w1 ⟨rfl, hbu, hb⟩; have U1 := Lib.hid hbu; have B1 : Hid (Below bb w0 w1) := hb; clear hbu hb)
  go_loopw [13] (fun iv wr => ∃ (j : Nat), j ≤ n ∧ iv = .int .i64 (j : Int) ∧ Hid (Lib.BuilderAtF 61 5 bb bb (.pointer (some ⟨bb, 0, none⟩)) (Lib.byteCells (buildL head (vs.take j))) wr) ∧ Hid (Below bb w0 wr) ∧ Hid (∀ v ∈ vs.take j, rt v = true)) (fun iv _ => n - (intOf iv).toNat)
  case atStart =>
    refine ⟨0, by omega, rfl, ?_, B1.out, fun v hv => by simp at hv⟩
    have h := U1.out
    have e : Lib.byteCells (buildL head (vs.take 0)) = Lib.byteCells [] ++ Lib.strCells head := by rw [Lib.strCells_eq]; simp [buildL, Lib.byteCells]
    rw [e]; exact h
  case round =>
    obtain ⟨j, hj, rfl, hU, hB, hR⟩ := hrel
    have BW : Hid (Below w.heap.size w wr) := B0.out.trans (hB.out.mono (by have := HBB.out; omega))
    have hbw : bb ≤ wr.heap.size := Nat.le_trans hb0 hB.out.size
    have HLr := Lib.hid (HL.out.below BW.out)
    by_cases hlt : j < n
    · obtain ⟨s, hs⟩ : ∃ s, vs[j]? = some s := ⟨_, List.getElem?_eq_getElem (by have := HN.out; omega)⟩
      have hvs := HV.out s (List.mem_of_getElem? hs)
      obtain ⟨g, off, rfl, hc⟩ : ∃ g off, o = some ⟨g, off, none⟩ ∧ wr.cell? ⟨g, off + j, none⟩ = some (.string s) := by
        rcases HS.out.below BW.out with h | ⟨g, off, e, h⟩
        · rw [h] at hs; simp at hs
        · exact ⟨g, off, e, h j s hs⟩
      have hji : (j : Int) < (n : Int) := by omega
      have HRs := Lib.hid (right_any s wr hvs HLr.out)
      obtain ⟨b, hb⟩ : ∃ b, rightB s.data.toList = b := ⟨_, rfl⟩
      rw [hb] at HRs
      have HSJ := Lib.hid hs
      clear hs
      cases b with
      | false =>
        have HF : Hid (buildV head vs = .tuple #[.string ⟨#[]⟩, .int .i64 10]) := by
          show _ = _
          unfold buildV
          rw [if_neg]
          rw [List.all_eq_true]
          intro h
          have := h s (List.mem_of_getElem? HSJ.out)
          unfold rt at this
          rw [hb] at this; cases this
        clear hb
        go_wp2_with (go_at_call 24; (with_reducible refine Calls.mono HRs.out ?_); rintro e w2 ⟨rfl, hb⟩; have B2 : Hid (Below w.heap.size w w2) := BW.out.trans (hb.mono BW.out.size); clear hb)
        go_ret2
        exact ⟨by rw [HF.out]; rfl, B2.out⟩
      | true =>
        have HB := Lib.hid hb
        have hss := right_size (v := s) hb
        clear hb
        have hsz : (buildL head (vs.take j)).length ≤ 100000 + 1000 * 16384 := by
          have h1 := buildL_size head (vs.take j) (fun v hv => right_size (hR.out v hv))
          rw [List.length_take] at h1
          have h2 : min j vs.length ≤ 1000 := by have := HN.out; omega
          have h3 : min j vs.length * 16384 ≤ 1000 * 16384 := Nat.mul_le_mul_right _ h2
          omega
        have HWr : Hid (∀ W, Below wr.heap.size wr W → Calls Tryd.prog 43 #[.pointer (some ⟨bb, 0, none⟩), .string s] W fun e w' => e = .returned (.tuple #[.int .i64 s.size, .nilIface]) ∧ (Lib.BuilderAtF 61 5 bb bb (.pointer (some ⟨bb, 0, none⟩)) (Lib.byteCells (buildL head (vs.take j)) ++ Lib.strCells s) w' ∧ Below bb W w')) := fun W hW => WriteString_any bb bb _ s W (.inr (builder_later hU.out hW)) (by rw [Lib.byteCells_length]; omega) (by have := hW.size; omega)
        clear hsz hss
        go_wp2_with (first
          | (go_at_call 24; (with_reducible refine Calls.mono HRs.out ?_); rintro e w2 ⟨rfl, hb⟩; have B2 : Hid (Below bb w0 w2) := hB.out.trans (hb.mono hbw); have HW2 := Lib.hid (HWr.out w2 hb); clear hb)
          | (go_at_call 43; (with_reducible refine Calls.mono HW2.out ?_); rintro e w3 ⟨rfl, hbu, hb⟩; have U3 := Lib.hid hbu; have B3 : Hid (Below bb w0 w3) := B2.out.trans hb; clear hbu hb))
        go_roundw
        case rel =>
          refine ⟨j + 1, by omega, by congr 1, ?_, B3.out, ?_⟩
          · rw [buildL_take head vs j s HSJ.out]
            have h := U3.out
            rw [Lib.strCells_eq] at h
            rw [show Lib.byteCells (buildL head (vs.take j) ++ s.data.toList) = Lib.byteCells (buildL head (vs.take j)) ++ Lib.byteCells s.data.toList by simp [Lib.byteCells]]
            exact h
          · have hi := (List.getElem?_eq_some_iff.1 HSJ.out).1
            show ∀ v ∈ vs.take (j + 1), rt v = true
            rw [List.take_succ_eq_append_getElem hi, show vs[j] = s by have hs := HSJ.out; rw [List.getElem?_eq_getElem hi] at hs; exact Option.some.inj hs]
            intro v hv
            rcases List.mem_append.1 hv with h | h
            · exact hR.out v h
            · rw [List.mem_singleton.1 h]; exact HB.out
        case measure => simp [intOf]; omega
    · obtain rfl : j = n := by omega
      have htk : vs.take j = vs := List.take_of_length_le (by have := HN.out; omega)
      rw [htk] at hU hR
      clear htk
      have hsz := buildL_size head vs (fun v hv => right_size (hR.out v hv))
      have HF : Hid (buildV head vs = wholeV ⟨(buildL head vs).toArray⟩) := by
        show _ = _
        unfold buildV
        rw [if_pos (List.all_eq_true.2 (fun v hv => hR.out v hv))]
      have HST := Lib.hid (Tryd.Builder_String_any_f bb bb (buildL head vs) wr (.inr hU.out) hbw)
      have hz : (⟨(buildL head vs).toArray⟩ : ByteArray).size ≤ maxLen := by
        show (buildL head vs).toArray.size ≤ maxLen
        rw [List.size_toArray]
        have h2 : vs.length * 16384 ≤ 1000 * 16384 := Nat.mul_le_mul_right _ (by have := HN.out; omega)
        unfold maxLen; omega
      generalize (⟨(buildL head vs).toArray⟩ : ByteArray) = t at HST HF hz
      have HWH : Hid (∀ W, LibOk W → Calls Tryd.prog 25 #[.string t] W fun e w' => e = .returned (wholeV t) ∧ Below W.heap.size W w') := fun W hW => wholeV_any t W hz hW
      unfold wholeV at HWH HF
      clear hsz
      cases hr : rt t <;>
      · rw [hr] at HWH HF
        clear hr
        go_wp2_with (first
          | (go_at_call 44; (with_reducible refine Calls.mono HST.out ?_); rintro e w2 ⟨rfl, _, hb⟩; have B2 : Hid (Below w.heap.size w w2) := BW.out.trans (hb.mono (by have := HBB.out; omega)); have HL2 := Lib.hid (HL.out.below B2.out); clear hb)
          | (go_at_call 25; (with_reducible refine Calls.mono (HWH.out _ HL2.out) ?_); rintro e w3 ⟨rfl, hb⟩; have B3 : Hid (Below w.heap.size w w3) := B2.out.trans (hb.mono B2.out.size); clear hb))
        go_ret2
        exact ⟨by rw [HF.out]; rfl, B3.out⟩
end Go.Proofs.YtlheoipengndnabDoor
