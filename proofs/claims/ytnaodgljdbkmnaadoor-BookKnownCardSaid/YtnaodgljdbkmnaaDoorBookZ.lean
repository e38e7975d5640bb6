/- BookKnown, walked -/
import Derived.Test.YtnaodgljdbkmnaaDoorBookJ
import Derived.Test.YtnaodgljdbkmnaaDoorBookI
import Derived.Test.YtnaodgljdbkmnaaDoorBookE
import Derived.Laws.MakeOwn
import Derived.Laws.OwnMore
import Derived.IntWalk
import Derived.Deep.CutBlock
namespace Go.Proofs.YtnaodgljdbkmnaaDoor
set_option linter.unusedVariables false
open Go.RowKit
/-! nil books -/
set_option maxRecDepth 100000 in
set_option maxHeartbeats 2000000 in
theorem nil_ask (pre : ByteArray) (amt now exp delta : Int) (memo : ByteArray) (w : World) : Calls Tryd.prog 33 #[.pointer none, .string pre, .int .i64 amt, .int .i64 now, .int .i64 exp, .int .i64 delta, .string memo] w fun e w' => e = .returned (.tuple #[.string ⟨#[]⟩, .int .i64 1]) ∧ Below w.heap.size w w' := by
  go_enter Tryd.func33, Tryd.ntmps33
  go_wp2_with fail
  go_ret2
  exact ⟨rfl, Below.refl _ _⟩
set_option maxRecDepth 100000 in
set_option maxHeartbeats 2000000 in
theorem nil_find (x : ByteArray) (w : World) : Calls Tryd.prog 49 #[.pointer none, .string x] w fun e w' => e = .returned (.tuple #[.pointer none, .int .i64 1]) ∧ Below w.heap.size w w' := by
  go_enter Tryd.func49, Tryd.ntmps49
  go_wp2_with fail
  go_ret2
  exact ⟨rfl, Below.refl _ _⟩
set_option maxRecDepth 100000 in
set_option maxHeartbeats 2000000 in
theorem nil_offer (x : ByteArray) (amt now height expiry : Int) (w : World) : Calls Tryd.prog 29 #[.pointer none, .string x, .int .i64 amt, .int .i64 now, .int .i64 height, .int .i64 expiry] w fun e w' => e = .returned (.tuple #[.string ⟨#[]⟩, .int .i64 1]) ∧ Below w.heap.size w w' := by
  go_enter Tryd.func29, Tryd.ntmps29
  go_wp2_with (go_at_call 49; (with_reducible refine Calls.mono (nil_find x _) ?_); rintro e w1 ⟨rfl, hb1⟩; have B1 := Lib.hid hb1; clear hb1)
  go_ret2
  exact ⟨rfl, B1.out⟩
set_option maxRecDepth 100000 in
set_option maxHeartbeats 2000000 in
theorem nil_settled (x : ByteArray) (w : World) : Calls Tryd.prog 31 #[.pointer none, .string x] w fun e w' => e = .returned (.int .i64 1) ∧ Below w.heap.size w w' := by
  go_enter Tryd.func31, Tryd.ntmps31
  go_wp2_with (go_at_call 49; (with_reducible refine Calls.mono (nil_find x _) ?_); rintro e w1 ⟨rfl, hb1⟩; have B1 := Lib.hid hb1; clear hb1)
  go_ret
  exact ⟨rfl, B1.out⟩
set_option maxRecDepth 100000 in
set_option maxHeartbeats 2000000 in
theorem nil_count (w : World) : Calls Tryd.prog 36 #[.pointer none] w fun e w' => e = .returned (.int .i64 0) ∧ Below w.heap.size w w' := by
  go_enter Tryd.func36, Tryd.ntmps36
  go_wp2_with fail
  go_ret
  exact ⟨rfl, Below.refl _ _⟩
set_option maxRecDepth 100000 in
set_option maxHeartbeats 2000000 in
theorem nil_bills (w : World) : Calls Tryd.prog 41 #[.pointer none] w fun e w' => e = .returned (.slice none 0 0) ∧ Below w.heap.size w w' := by
  go_enter Tryd.func41, Tryd.ntmps41
  go_wp2_with fail
  go_ret
  exact ⟨rfl, Below.refl _ _⟩
set_option maxRecDepth 100000 in
set_option maxHeartbeats 4000000 in
theorem nil_prune (now : Int) (w : World) : Calls Tryd.prog 32 #[.pointer none, .int .i64 now] w fun e w' => e = .returned (.int .i64 0) ∧ Below w.heap.size w w' := by
  go_enter Tryd.func32, Tryd.ntmps32
  go_wp2_with fail
  go_ret
  exact ⟨rfl, by (repeat (first | exact Below.refl _ _ | (refine Below.alloc ?_ (by simp) _)))⟩
set_option maxRecDepth 100000 in
set_option maxHeartbeats 4000000 in
theorem nil_bill (x : ByteArray) (w : World) : Calls Tryd.prog 34 #[.pointer none, .string x] w fun e w' => e = .returned (.tuple #[.agg bil0.cells.toArray, .bool false]) ∧ Below w.heap.size w w' := by
  have HF : Hid (∀ W, Calls Tryd.prog 49 #[.pointer none, .string x] W fun e w' => e = .returned (.tuple #[.pointer none, .int .i64 1]) ∧ Below W.heap.size W w') := fun W => nil_find x W
  go_enter Tryd.func34, Tryd.ntmps34
  go_upto_region 1 with fail
  have Q0 := Lib.hid (heap_alloc_at w (.cells #[.string ⟨#[]⟩, .string ⟨#[]⟩, .int .i64 0, .int .i64 0, .int .i64 0, .int .i64 0, .string ⟨#[]⟩, .bool false] 58))
  have B0 := Lib.hid (below_new' w (.cells #[.string ⟨#[]⟩, .string ⟨#[]⟩, .int .i64 0, .int .i64 0, .int .i64 0, .int .i64 0, .string ⟨#[]⟩, .bool false] 58))
  generalize w.alloc (.cells #[.string ⟨#[]⟩, .string ⟨#[]⟩, .int .i64 0, .int .i64 0, .int .i64 0, .int .i64 0, .string ⟨#[]⟩, .bool false] 58) = w0 at Q0 B0 ⊢
  obtain ⟨r4, hr4⟩ : ∃ r4, w.heap.size = r4 := ⟨_, rfl⟩
  have HR4 := Lib.hid hr4
  rw [hr4] at Q0 ⊢
  clear hr4
  go_wp2_with (first
    | (go_at_call 49; (with_reducible refine Calls.mono (HF.out _) ?_); rintro e w1 ⟨rfl, hb1⟩; have B1 : Hid (Below w.heap.size w w1) := B0.out.trans (hb1.mono B0.out.size); have Q1 : Hid (w1.heap[r4]? = _) := (hb1.block r4 (lt_of_heap Q0.out)).trans Q0.out; clear hb1)
    | (refine wpList_store_row rfl 58 (.tmp 4) (.tmp 16) rfl r4 bil0.cells.toArray rfl rfl 58 _ Q1.out (info58b _) rfl (one58 _) ?_))
  have hl := run_loadVar_row (P := Tryd.prog) (w1.setRow r4 bil0.cells.toArray) r4 58 58 bil0.cells.toArray (0, 0) _ (setRow_heap w1 r4 _ _ 58 _ Q1.out) Tryd.underlying58 rfl (info58b _)
  exact bodyPost_ret (results_cell_tmp Tryd.results34 _ _ _ rfl hl) rfl ⟨rfl, below_setRow B1.out (by have := HR4.out; omega) _⟩
set_option maxRecDepth 100000 in
set_option maxHeartbeats 4000000 in
theorem nil_invoice (x payee : ByteArray) (w : World) : Calls Tryd.prog 35 #[.pointer none, .string x, .string payee] w fun e w' => e = .returned (.tuple #[.agg (invO none payee).toArray, .int .i64 1]) ∧ Below w.heap.size w w' := by
  have HF : Hid (∀ W, Calls Tryd.prog 49 #[.pointer none, .string x] W fun e w' => e = .returned (.tuple #[.pointer none, .int .i64 1]) ∧ Below W.heap.size W w') := fun W => nil_find x W
  go_enter Tryd.func35, Tryd.ntmps35
  go_upto_region 1 with fail
  have Q0 := Lib.hid (heap_alloc_at w (.cells #[.int .i64 0, .int .i64 0, .string ⟨#[]⟩, .string ⟨#[]⟩, .string ⟨#[]⟩, .int .i64 0, .int .i64 0, .string ⟨#[]⟩] 62))
  have B0 := Lib.hid (below_new' w (.cells #[.int .i64 0, .int .i64 0, .string ⟨#[]⟩, .string ⟨#[]⟩, .string ⟨#[]⟩, .int .i64 0, .int .i64 0, .string ⟨#[]⟩] 62))
  generalize w.alloc (.cells #[.int .i64 0, .int .i64 0, .string ⟨#[]⟩, .string ⟨#[]⟩, .string ⟨#[]⟩, .int .i64 0, .int .i64 0, .string ⟨#[]⟩] 62) = w0 at Q0 B0 ⊢
  obtain ⟨r6, hr6⟩ : ∃ r6, w.heap.size = r6 := ⟨_, rfl⟩
  have HR6 := Lib.hid hr6
  rw [hr6] at Q0 ⊢
  clear hr6
  go_wp2_with (first
    | (go_at_call 49; (with_reducible refine Calls.mono (HF.out _) ?_); rintro e w1 ⟨rfl, hb1⟩; have B1 : Hid (Below w.heap.size w w1) := B0.out.trans (hb1.mono B0.out.size); have Q1 : Hid (w1.heap[r6]? = _) := (hb1.block r6 (lt_of_heap Q0.out)).trans Q0.out; clear hb1)
    | (refine wpList_store_row rfl 62 (.tmp 6) (.tmp 18) rfl r6 (invO none payee).toArray rfl rfl 62 _ Q1.out (info62b _ _) rfl (one62 _ _) ?_))
  have hl := run_loadVar_row (P := Tryd.prog) (w1.setRow r6 (invO none payee).toArray) r6 62 62 (invO none payee).toArray (0, 0) _ (setRow_heap w1 r6 _ _ 62 _ Q1.out) Tryd.underlying62 rfl (info62b _ _)
  exact bodyPost_ret (results_cell_tmp Tryd.results35 _ _ _ rfl hl) rfl ⟨rfl, below_setRow B1.out (by have := HR6.out; omega) _⟩
/-! what the examples answer -/
def n8 : ByteArray := ⟨#[110, 56, 59]⟩
def hn8 : ByteArray := ⟨#[72, 110, 56, 59]⟩
def hn9 : ByteArray := ⟨#[72, 110, 57, 59]⟩
abbrev B7 : Bil := ⟨hn7, n7, 1000, 50, 100, 9, tea, false⟩
abbrev B7p : Bil := ⟨hn7, n7, 1000, 50, 100, 9, tea, true⟩
abbrev B8 : Bil := ⟨hn8, n8, 0, 0, 5, 0, ⟨#[]⟩, false⟩
theorem askB_7 : askB n7 1000 50 100 9 tea = B7 := by kernel_rfl
theorem askB_8 : askB n8 0 0 5 0 ⟨#[]⟩ = B8 := by kernel_rfl
theorem ka2 (b : Nat) : askE [(b, B7)] n7 1000 50 100 9 tea = 6 := by kernel_rfl
theorem ka3 (b : Nat) : askE [(b, B7)] ⟨#[110, 55]⟩ 1000 50 100 9 tea = 10 := by kernel_rfl
theorem ka8 (b : Nat) : askE [(b, B7p)] n8 0 0 5 0 ⟨#[]⟩ = 0 := by kernel_rfl
/-- the offers -/
structure Ofr where
  hash : ByteArray
  amt : Int
  now : Int
  height : Int
  exp : Int
  want : Int
def Ofr.cells (o : Ofr) : List Value := [.string o.hash, .int .i64 o.amt, .int .i64 o.now, .int .i64 o.height, .int .i64 o.exp, .int .i64 o.want]
def ofrs : List Ofr := [⟨hn7, 1000, 60, 5, 14, 0⟩, ⟨hn8, 1000, 60, 5, 14, 230⟩, ⟨hn7, 999, 60, 5, 14, 233⟩, ⟨hn7, 2000, 150, 5, 14, 0⟩, ⟨hn7, 2001, 60, 5, 14, 233⟩, ⟨hn7, 1000, 151, 5, 14, 231⟩, ⟨hn7, 1000, -9223372036854775808, 5, 14, 0⟩, ⟨hn7, 1000, 60, 5, 13, 241⟩, ⟨hn7, 1000, 60, -1, 14, 241⟩, ⟨hn7, 1000, 60, 2147483648, 2147483648, 241⟩]
theorem offX_known : ofrs.map (fun o => if o.hash = hn7 then offX B7 o.amt o.now o.height o.exp else 230) = ofrs.map (·.want) := by kernel_rfl
theorem offV_want (b : Nat) : ∀ o ∈ ofrs, ∃ u, offV (findB o.hash [(b, B7)] 0) o.amt o.now o.height o.exp = .tuple #[.string u, .int .i64 o.want] := by
  intro o ho
  unfold ofrs at ho
  simp only [List.mem_cons, List.not_mem_nil, or_false] at ho
  rcases ho with rfl | rfl | rfl | rfl | rfl | rfl | rfl | rfl | rfl | rfl
  · exact ⟨n7, by kernel_rfl⟩
  · exact ⟨⟨#[]⟩, by kernel_rfl⟩
  · exact ⟨⟨#[]⟩, by kernel_rfl⟩
  · exact ⟨n7, by kernel_rfl⟩
  · exact ⟨⟨#[]⟩, by kernel_rfl⟩
  · exact ⟨⟨#[]⟩, by kernel_rfl⟩
  · exact ⟨n7, by kernel_rfl⟩
  · exact ⟨⟨#[]⟩, by kernel_rfl⟩
  · exact ⟨⟨#[]⟩, by kernel_rfl⟩
  · exact ⟨⟨#[]⟩, by kernel_rfl⟩
theorem ks9 (b : Nat) : setE hn9 [(b, B7)] = 230 ∧ setL hn9 [(b, B7)] = [(b, B7)] := ⟨by kernel_rfl, by kernel_rfl⟩
theorem ks7 (b : Nat) : setE hn7 [(b, B7)] = 0 ∧ setL hn7 [(b, B7)] = [(b, B7p)] := ⟨by kernel_rfl, by kernel_rfl⟩
theorem ks7p (b : Nat) : setE hn7 [(b, B7p)] = 232 ∧ setL hn7 [(b, B7p)] = [(b, B7p)] := ⟨by kernel_rfl, by kernel_rfl⟩
theorem kp1 (b : Nat) : [((b, B7p) : Ent)].filter (kp 1099511627776) = [(b, B7p)] := by kernel_rfl
theorem ko7p (b : Nat) : offV (findB hn7 [(b, B7p)] 0) 1000 60 5 14 = .tuple #[.string ⟨#[]⟩, .int .i64 232] := by kernel_rfl
theorem ko8 (b c : Nat) : offV (findB hn8 [(b, B7p), (c, B8)] 0) 1 5 0 0 = .tuple #[.string ⟨#[110, 56, 59]⟩, .int .i64 0] := by kernel_rfl
theorem ko8a (b c : Nat) : offV (findB hn8 [(b, B7p), (c, B8)] 0) 0 5 0 0 = .tuple #[.string ⟨#[]⟩, .int .i64 233] := by kernel_rfl
theorem ko8b (b c : Nat) : offV (findB hn8 [(b, B7p), (c, B8)] 0) 2100000000000000001 5 0 0 = .tuple #[.string ⟨#[]⟩, .int .i64 233] := by kernel_rfl
theorem kp5 (b c : Nat) : [((b, B7p) : Ent), (c, B8)].filter (kp 5) = [(b, B7p), (c, B8)] := by kernel_rfl
theorem kp6 (b c : Nat) : [((b, B7p) : Ent), (c, B8)].filter (kp 6) = [(b, B7p)] := by kernel_rfl
def zs (n : Nat) : ByteArray := ⟨(List.replicate n (0 : UInt8)).toArray⟩
def longT : ByteArray := textS (zs 633)
def longerT : ByteArray := textS (zs 634)
theorem text_long : textV (zs 633) = .tuple #[.string longT, .int .i64 0] := by kernel_rfl
theorem text_longer : textV (zs 634) = .tuple #[.string longerT, .int .i64 0] := by kernel_rfl
theorem ka_long (b : Nat) : askE [(b, B7p)] longT 1 0 0 0 ⟨#[]⟩ = 0 := by kernel_rfl
theorem hash_long : (hashL longT).size = 639 := by kernel_rfl
def Blong : Bil := askB longT 1 0 0 0 ⟨#[]⟩
theorem ka_rt : rt longerT = true ∧ rt (hashL longerT) = true ∧ (hashL longerT).size = 640 := ⟨by kernel_rfl, by kernel_rfl, by kernel_rfl⟩
theorem ka_longer (L : List Ent) : askE L longerT 1 0 0 0 ⟨#[]⟩ = 3 := by
  obtain ⟨h1, h2, h3⟩ := ka_rt
  unfold askE
  rw [if_neg (by rw [h1]; decide), if_pos (.inr (by rw [h3]; decide))]
def n1 : ByteArray := ⟨#[110, 49, 59]⟩
theorem n1_rt : rt n1 = true ∧ rt (hashL n1) = true ∧ (hashL n1).size = 4 := ⟨by kernel_rfl, by kernel_rfl, by kernel_rfl⟩
theorem kb1 (L : List Ent) : askE L n1 2100000000000000001 0 0 0 ⟨#[]⟩ = 40 := by
  obtain ⟨h1, h2, h3⟩ := n1_rt
  unfold askE
  rw [if_neg (by rw [h1]; decide), if_neg (by rw [h2, h3]; decide), if_pos (by decide)]
theorem kb2 (L : List Ent) : askE L n1 1 34359738368 0 0 ⟨#[]⟩ = 2 := by
  obtain ⟨h1, h2, h3⟩ := n1_rt
  unfold askE
  rw [if_neg (by rw [h1]; decide), if_neg (by rw [h2, h3]; decide), if_neg (by decide), if_pos (by decide)]
theorem kb3 (L : List Ent) : askE L n1 1 0 (-1) 0 ⟨#[]⟩ = 2 := by
  obtain ⟨h1, h2, h3⟩ := n1_rt
  unfold askE
  rw [if_neg (by rw [h1]; decide), if_neg (by rw [h2, h3]; decide), if_neg (by decide), if_pos (by decide)]
theorem kb4 (L : List Ent) : askE L n1 1 0 0 2147483648 ⟨#[]⟩ = 2 := by
  obtain ⟨h1, h2, h3⟩ := n1_rt
  unfold askE
  rw [if_neg (by rw [h1]; decide), if_neg (by rw [h2, h3]; decide), if_neg (by decide), if_pos (by decide)]
theorem kb5 (L : List Ent) : askE L n1 1 0 0 0 (zs 640) = 2 := by
  obtain ⟨h1, h2, h3⟩ := n1_rt
  have : (zs 640).size = 640 := by kernel_rfl
  unfold askE
  rw [if_neg (by rw [h1]; decide), if_neg (by rw [h2, h3]; decide), if_neg (by decide), if_pos (by rw [this]; decide)]
/-! the names from 100 on -/
def dec6 (x : ByteArray) : Nat := ((x.data.toList.getD 2 0).toNat - 48) * 100 + ((x.data.toList.getD 3 0).toNat - 48) * 10 + ((x.data.toList.getD 4 0).toNat - 48)
def okName (k : Nat) : Bool := rt (nameS ((100 + k : Nat) : Int)) && rt (hashL (nameS ((100 + k : Nat) : Int))) && ((hashL (nameS ((100 + k : Nat) : Int))).size == 6) && (dec6 (hashL (nameS ((100 + k : Nat) : Int))) == 100 + k)
theorem okName_all : (List.range 256).all okName = true := by kernel_rfl
theorem okName_at {k : Nat} (h : k < 256) : rt (nameS ((100 + k : Nat) : Int)) = true ∧ rt (hashL (nameS ((100 + k : Nat) : Int))) = true ∧ (hashL (nameS ((100 + k : Nat) : Int))).size = 6 ∧ dec6 (hashL (nameS ((100 + k : Nat) : Int))) = 100 + k := by
  have := List.all_eq_true.1 okName_all k (List.mem_range.2 h)
  unfold okName at this
  simp only [Bool.and_eq_true, beq_iff_eq] at this
  exact ⟨this.1.1.1, this.1.1.2, this.1.2, this.2⟩
/-- what the book holds when k names were asked -/
def Filled (L : List Ent) (k : Nat) : Prop := L.length = 2 + k ∧ ∀ e ∈ L, e.2.hash = hn7 ∨ e.2.hash.size = 639 ∨ ∃ j, j < k ∧ e.2.hash = hashL (nameS ((100 + j : Nat) : Int))
theorem filled_start (b c : Nat) : Filled [(b, B7p), (c, Blong)] 0 := by
  refine ⟨rfl, fun e he => ?_⟩
  simp only [List.mem_cons, List.not_mem_nil, or_false] at he
  rcases he with rfl | rfl
  · exact .inl rfl
  · exact .inr (.inl hash_long)
theorem filled_ask {L : List Ent} {k : Nat} (h : Filled L k) (hk : k < 254) : askE L (nameS ((100 + k : Nat) : Int)) 1 0 0 0 ⟨#[]⟩ = 0 := by
  obtain ⟨h1, h2, h3, h4⟩ := okName_at (show k < 256 by omega)
  unfold askE
  rw [if_neg (by rw [h1]; decide), if_neg (by rw [h2, h3]; decide), if_neg (by decide), if_neg (by decide), if_neg, if_neg (by have := h.1; omega)]
  rw [findB_none.2]
  · decide
  · intro e he heq
    rcases h.2 e he with h5 | h5 | ⟨j, hj, h5⟩
    · rw [h5] at heq; rw [← heq] at h3; exact absurd h3 (by decide)
    · rw [heq, h3] at h5; exact absurd h5 (by decide)
    · obtain ⟨_, _, _, g4⟩ := okName_at (show j < 256 by omega)
      rw [← h5, heq, h4] at g4
      omega
theorem filled_next {L : List Ent} {k : Nat} (h : Filled L k) (bb : Nat) : Filled (L ++ [(bb, askB (nameS ((100 + k : Nat) : Int)) 1 0 0 0 ⟨#[]⟩)]) (k + 1) := by
  refine ⟨by rw [List.length_append, h.1]; simp; omega, fun e he => ?_⟩
  rcases List.mem_append.1 he with he | he
  · rcases h.2 e he with h5 | h5 | ⟨j, hj, h5⟩
    · exact .inl h5
    · exact .inr (.inl h5)
    · exact .inr (.inr ⟨j, by omega, h5⟩)
  · rw [List.mem_singleton] at he
    subst he
    exact .inr (.inr ⟨k, by omega, rfl⟩)
theorem n99_rt : rt ⟨#[110, 57, 57, 59]⟩ = true ∧ rt (hashL ⟨#[110, 57, 57, 59]⟩) = true ∧ (hashL ⟨#[110, 57, 57, 59]⟩).size = 5 := ⟨by kernel_rfl, by kernel_rfl, by kernel_rfl⟩
theorem filled_full {L : List Ent} (h : Filled L 254) : askE L ⟨#[110, 57, 57, 59]⟩ 1 0 0 0 ⟨#[]⟩ = 3 := by
  obtain ⟨h1, h2, h3⟩ := n99_rt
  unfold askE
  rw [if_neg (by rw [h1]; decide), if_neg (by rw [h2, h3]; decide), if_neg (by decide), if_neg (by decide), if_neg, if_pos (by have := h.1; omega)]
  rw [findB_none.2]
  · decide
  · intro e he heq
    rcases h.2 e he with h5 | h5 | ⟨j, hj, h5⟩
    · rw [h5] at heq; rw [← heq] at h3; exact absurd h3 (by decide)
    · rw [heq, h3] at h5; exact absurd h5 (by decide)
    · obtain ⟨_, _, g3, _⟩ := okName_at (show j < 256 by omega)
      rw [← h5, heq, h3] at g3
      exact absurd g3 (by decide)
def KS (w0 w : World) (base bk mm : Nat) (L : List Ent) : Prop := ∃ v, BookAt w base bk mm v L ∧ Below w0.heap.size w0 w
theorem KS.bel {w0 w : World} {base bk mm : Nat} {L : List Ent} (h : KS w0 w base bk mm L) : Below w0.heap.size w0 w := by
  obtain ⟨_, _, h⟩ := h
  exact h
theorem KS.next {w0 w w' : World} {base bk mm : Nat} {L : List Ent} (h : KS w0 w base bk mm L) (hb : Below w.heap.size w w') : KS w0 w' base bk mm L := by
  obtain ⟨v, h1, h2⟩ := h
  exact ⟨v, h1.below hb, h2.trans (hb.mono h2.size)⟩
theorem KS.turn {w0 w w' : World} {base bk mm : Nat} {v x : Value} {L L' : List Ent} {y : Ending} (hb0 : w0.heap.size ≤ base) (h1 : BookAt w base bk mm v L) (hb : Below w0.heap.size w0 w) (ht : BTurn base bk mm v L L' x w y w') : KS w0 w' base bk mm L' := by
  have hB := ht.below h1
  obtain ⟨_, v', h1', _⟩ := ht
  exact ⟨v', h1', hb.trans (hB.mono hb0)⟩
section
variable {w0 W : World} {base bk mm : Nat} {L : List Ent}
theorem ks_ask_no (hb0 : w0.heap.size ≤ base) (h : KS w0 W base bk mm L) {pre : ByteArray} {amt now exp delta : Int} {memo : ByteArray} {x : Int} (hx : askE L pre amt now exp delta memo = x) (h0 : x ≠ 0) (hp : pre.size ≤ maxLen) (hmm : memo.size ≤ maxLen) (hL : LibOk w0) :
    Calls Tryd.prog 33 #[.pointer (some ⟨bk, 0, none⟩), .string pre, .int .i64 amt, .int .i64 now, .int .i64 exp, .int .i64 delta, .string memo] W fun y w' => y = .returned (.tuple #[.string ⟨#[]⟩, .int .i64 x]) ∧ KS w0 w' base bk mm L := by
  obtain ⟨v, h1, hb⟩ := h
  refine (ask_sum base bk mm v L W h1 pre amt now exp delta memo hp hmm (hL.below hb)).mono fun y w' ⟨L', ht, hd⟩ => ?_
  subst hx
  rcases hd with ⟨_, rfl⟩ | ⟨h2, _⟩
  · refine ⟨?_, KS.turn hb0 h1 hb ht⟩
    rw [ht.1]; unfold askV; rw [if_neg h0]
  · exact absurd h2 h0
theorem ks_ask_yes (hb0 : w0.heap.size ≤ base) (h : KS w0 W base bk mm L) {pre : ByteArray} {amt now exp delta : Int} {memo : ByteArray} (hx : askE L pre amt now exp delta memo = 0) (hp : pre.size ≤ maxLen) (hmm : memo.size ≤ maxLen) (hL : LibOk w0) :
    Calls Tryd.prog 33 #[.pointer (some ⟨bk, 0, none⟩), .string pre, .int .i64 amt, .int .i64 now, .int .i64 exp, .int .i64 delta, .string memo] W fun y w' => y = .returned (.tuple #[.string (hashL pre), .int .i64 0]) ∧ ∃ bb, KS w0 w' base bk mm (L ++ [(bb, askB pre amt now exp delta memo)]) := by
  obtain ⟨v, h1, hb⟩ := h
  refine (ask_sum base bk mm v L W h1 pre amt now exp delta memo hp hmm (hL.below hb)).mono fun y w' ⟨L', ht, hd⟩ => ?_
  rcases hd with ⟨h2, _⟩ | ⟨_, bb, rfl⟩
  · exact absurd hx h2
  · refine ⟨?_, bb, KS.turn hb0 h1 hb ht⟩
    rw [ht.1]; unfold askV; rw [if_pos hx]
theorem ks_offer (h : KS w0 W base bk mm L) {x : ByteArray} {amt now height expiry : Int} {V : Value} (hV : offV (findB x L 0) amt now height expiry = V) : Calls Tryd.prog 29 #[.pointer (some ⟨bk, 0, none⟩), .string x, .int .i64 amt, .int .i64 now, .int .i64 height, .int .i64 expiry] W fun y w' => y = .returned V ∧ Below W.heap.size W w' := by
  obtain ⟨v, h1, hb⟩ := h
  subst hV
  exact offer_any base bk mm v L W h1 x amt now height expiry
theorem ks_settled (hb0 : w0.heap.size ≤ base) (h : KS w0 W base bk mm L) {x : ByteArray} {E : Int} {L' : List Ent} (hE : setE x L = E ∧ setL x L = L') : Calls Tryd.prog 31 #[.pointer (some ⟨bk, 0, none⟩), .string x] W fun y w' => y = .returned (.int .i64 E) ∧ KS w0 w' base bk mm L' := by
  obtain ⟨v, h1, hb⟩ := h
  obtain ⟨h2, h3⟩ := hE
  subst h2 h3
  exact (settled_any base bk mm v L W h1 x).mono fun y w' ht => ⟨ht.1, KS.turn hb0 h1 hb ht⟩
theorem ks_prune (hb0 : w0.heap.size ≤ base) (h : KS w0 W base bk mm L) {now n : Int} {L' : List Ent} (hf : L.filter (kp now) = L') (hn : (L.length : Int) - (L'.length : Int) = n) : Calls Tryd.prog 32 #[.pointer (some ⟨bk, 0, none⟩), .int .i64 now] W fun y w' => y = .returned (.int .i64 n) ∧ KS w0 w' base bk mm L' := by
  obtain ⟨v, h1, hb⟩ := h
  subst hf hn
  exact (prune_any base bk mm v L W h1 now).mono fun y w' ht => ⟨ht.1, KS.turn hb0 h1 hb ht⟩
theorem ks_count (h : KS w0 W base bk mm L) {n : Int} (hn : (L.length : Int) = n) : Calls Tryd.prog 36 #[.pointer (some ⟨bk, 0, none⟩)] W fun y w' => y = .returned (.int .i64 n) ∧ Below W.heap.size W w' := by
  obtain ⟨v, h1, hb⟩ := h
  subst hn
  exact bcount_any base bk mm v L W h1
end
theorem Tryd.info5z : (Tryd.prog.info? 5).map (fun i => (i.zero, i.size, i.bytes)) = some (some (.int .u8 0), 1, 1) := by kernel_rfl
theorem zs_size (n : Nat) : (zs n).size = n := by unfold zs; rw [← list_size, ba_list, List.length_replicate]
/-- string(make([]byte, n)) -/
theorem zeros_make (n : Nat) (hn : n ≤ 10000) : ∃ F : World → World, (∀ W, (Instr.makeSlice 76 (.int .i64 (n : Int)) (.int .i64 (n : Int))).run Tryd.prog W = .ok (.slice (some ⟨W.heap.size, 0, none⟩) n n) (F W)) ∧ (∀ W, (convert 76 9 (.slice (some ⟨W.heap.size, 0, none⟩) n n)).run Tryd.prog (F W) = .ok (.string (zs n)) (F W)) ∧ Hid (∀ W, Below W.heap.size W (F W)) := by
  refine ⟨fun W => W.alloc (.cells (madeCells (Value.int .u8 0).cells n) 5), fun W => ?_, fun W => ?_, fun W => below_new' W _⟩
  · obtain ⟨i0, hi0, hz0, hz1, hz2⟩ := info_parts Tryd.info5z
    have h := run_make (P := Tryd.prog) W 76 5 i0 (.int .u8 0) Tryd.underlying76 hi0 hz0 .i64 .i64 (n : Int) (n : Int) (by omega) (by omega) (by rw [hz2]; omega) (by omega)
    rw [hz1, Nat.mul_one] at h
    simpa using h
  · have h := run_convert_bytes_back (P := Tryd.prog) (W.alloc (.cells (madeCells (Value.int .u8 0).cells n) 5)) 76 9 5 ⟨W.heap.size, 0, none⟩ n (List.replicate n 0) Tryd.underlying76 Tryd.underlying5 Tryd.underlying9 (fun i hi => by
      rw [Addr.add_lit, Nat.zero_add, cell_of_row _ _ _ _ _ _ (heap_alloc_at W _)]
      rw [List.length_replicate] at hi
      rw [← Array.getElem?_toList, show (Value.int .u8 0).cells = #[Value.int .u8 0] from rfl, toList_madeCells_one, List.getElem?_replicate, if_pos hi, List.getElem_replicate]; rfl)
    rw [List.length_replicate] at h
    exact h
theorem kc1 {w0 W : World} {base bk mm : Nat} (hb0 : w0.heap.size ≤ base) (h : KS w0 W base bk mm []) (hL : LibOk w0) : Calls Tryd.prog 33 #[.pointer (some ⟨bk, 0, none⟩), .string ⟨#[110, 55, 59]⟩, .int .i64 1000, .int .i64 50, .int .i64 100, .int .i64 9, .string ⟨#[116, 101, 97]⟩] W fun y w' => y = .returned (.tuple #[.string ⟨#[72, 110, 55, 59]⟩, .int .i64 0]) ∧ ∃ bb, KS w0 w' base bk mm ([(bb, B7)]) :=
  (ks_ask_yes hb0 h ask_n7 (by decide) (by decide) hL).mono fun y w' ⟨h1, bb, h2⟩ => ⟨by rw [h1]; exact congrArg Ending.returned (by kernel_rfl), bb, by have := h2; rw [askB_7] at this; exact this⟩
theorem kc2 {w0 W : World} {base bk mm : Nat} (hb0 : w0.heap.size ≤ base) (b : Nat) (h : KS w0 W base bk mm [(b, B7)]) (hL : LibOk w0) : Calls Tryd.prog 33 #[.pointer (some ⟨bk, 0, none⟩), .string ⟨#[110, 55, 59]⟩, .int .i64 1000, .int .i64 50, .int .i64 100, .int .i64 9, .string ⟨#[116, 101, 97]⟩] W fun y w' => y = .returned (.tuple #[.string ⟨#[]⟩, .int .i64 6]) ∧ KS w0 w' base bk mm [(b, B7)] :=
  ks_ask_no hb0 h (ka2 b) (by decide) (by decide) (by decide) hL
theorem kc3 {w0 W : World} {base bk mm : Nat} (hb0 : w0.heap.size ≤ base) (b : Nat) (h : KS w0 W base bk mm [(b, B7)]) (hL : LibOk w0) : Calls Tryd.prog 33 #[.pointer (some ⟨bk, 0, none⟩), .string ⟨#[110, 55]⟩, .int .i64 1000, .int .i64 50, .int .i64 100, .int .i64 9, .string ⟨#[116, 101, 97]⟩] W fun y w' => y = .returned (.tuple #[.string ⟨#[]⟩, .int .i64 10]) ∧ KS w0 w' base bk mm [(b, B7)] :=
  ks_ask_no hb0 h (ka3 b) (by decide) (by decide) (by decide) hL
theorem kc8 {w0 W : World} {base bk mm : Nat} (hb0 : w0.heap.size ≤ base) (b : Nat) (h : KS w0 W base bk mm [(b, B7p)]) (hL : LibOk w0) : Calls Tryd.prog 33 #[.pointer (some ⟨bk, 0, none⟩), .string ⟨#[110, 56, 59]⟩, .int .i64 0, .int .i64 0, .int .i64 5, .int .i64 0, .string ⟨#[]⟩] W fun y w' => y = .returned (.tuple #[.string ⟨#[72, 110, 56, 59]⟩, .int .i64 0]) ∧ ∃ bb, KS w0 w' base bk mm ([(b, B7p), (bb, B8)]) :=
  (ks_ask_yes hb0 h (ka8 b) (by decide) (by decide) hL).mono fun y w' ⟨h1, bb, h2⟩ => ⟨by rw [h1]; exact congrArg Ending.returned (by kernel_rfl), bb, by have := h2; rw [askB_8] at this; exact this⟩
theorem long_le : longT.size ≤ maxLen := Nat.le_trans (right_size (show rt longT = true by kernel_rfl)) (by decide)
theorem longer_le : longerT.size ≤ maxLen := Nat.le_trans (right_size ka_rt.1) (by decide)
theorem kclong {w0 W : World} {base bk mm : Nat} (hb0 : w0.heap.size ≤ base) (b : Nat) (h : KS w0 W base bk mm [(b, B7p)]) (hL : LibOk w0) : Calls Tryd.prog 33 #[.pointer (some ⟨bk, 0, none⟩), .string longT, .int .i64 1, .int .i64 0, .int .i64 0, .int .i64 0, .string ⟨#[]⟩] W fun y w' => y = .returned (.tuple #[.string (hashL longT), .int .i64 0]) ∧ ∃ bb, KS w0 w' base bk mm ([(b, B7p), (bb, Blong)]) :=
  (ks_ask_yes hb0 h (ka_long b) (long_le) (by decide) hL).mono fun y w' ⟨h1, bb, h2⟩ => ⟨h1, bb, h2⟩
theorem kclonger {w0 W : World} {base bk mm : Nat} (hb0 : w0.heap.size ≤ base) (b : Nat) (c : Nat) (h : KS w0 W base bk mm [(b, B7p), (c, Blong)]) (hL : LibOk w0) : Calls Tryd.prog 33 #[.pointer (some ⟨bk, 0, none⟩), .string longerT, .int .i64 1, .int .i64 0, .int .i64 0, .int .i64 0, .string ⟨#[]⟩] W fun y w' => y = .returned (.tuple #[.string ⟨#[]⟩, .int .i64 3]) ∧ KS w0 w' base bk mm [(b, B7p), (c, Blong)] :=
  ks_ask_no hb0 h (ka_longer _) (by decide) (longer_le) (by decide) hL
theorem kcm {w0 W : World} {base bk mm : Nat} (hb0 : w0.heap.size ≤ base) (b : Nat) (c : Nat) (h : KS w0 W base bk mm [(b, B7p), (c, Blong)]) (hL : LibOk w0) : Calls Tryd.prog 33 #[.pointer (some ⟨bk, 0, none⟩), .string ⟨#[110, 49, 59]⟩, .int .i64 2100000000000000001, .int .i64 0, .int .i64 0, .int .i64 0, .string ⟨#[]⟩] W fun y w' => y = .returned (.tuple #[.string ⟨#[]⟩, .int .i64 40]) ∧ KS w0 w' base bk mm [(b, B7p), (c, Blong)] :=
  ks_ask_no hb0 h (kb1 _) (by decide) (by decide) (by decide) hL
theorem kcn {w0 W : World} {base bk mm : Nat} (hb0 : w0.heap.size ≤ base) (b : Nat) (c : Nat) (h : KS w0 W base bk mm [(b, B7p), (c, Blong)]) (hL : LibOk w0) : Calls Tryd.prog 33 #[.pointer (some ⟨bk, 0, none⟩), .string ⟨#[110, 49, 59]⟩, .int .i64 1, .int .i64 34359738368, .int .i64 0, .int .i64 0, .string ⟨#[]⟩] W fun y w' => y = .returned (.tuple #[.string ⟨#[]⟩, .int .i64 2]) ∧ KS w0 w' base bk mm [(b, B7p), (c, Blong)] :=
  ks_ask_no hb0 h (kb2 _) (by decide) (by decide) (by decide) hL
theorem kce {w0 W : World} {base bk mm : Nat} (hb0 : w0.heap.size ≤ base) (b : Nat) (c : Nat) (h : KS w0 W base bk mm [(b, B7p), (c, Blong)]) (hL : LibOk w0) : Calls Tryd.prog 33 #[.pointer (some ⟨bk, 0, none⟩), .string ⟨#[110, 49, 59]⟩, .int .i64 1, .int .i64 0, .int .i64 (-1), .int .i64 0, .string ⟨#[]⟩] W fun y w' => y = .returned (.tuple #[.string ⟨#[]⟩, .int .i64 2]) ∧ KS w0 w' base bk mm [(b, B7p), (c, Blong)] :=
  ks_ask_no hb0 h (kb3 _) (by decide) (by decide) (by decide) hL
theorem kcd {w0 W : World} {base bk mm : Nat} (hb0 : w0.heap.size ≤ base) (b : Nat) (c : Nat) (h : KS w0 W base bk mm [(b, B7p), (c, Blong)]) (hL : LibOk w0) : Calls Tryd.prog 33 #[.pointer (some ⟨bk, 0, none⟩), .string ⟨#[110, 49, 59]⟩, .int .i64 1, .int .i64 0, .int .i64 0, .int .i64 2147483648, .string ⟨#[]⟩] W fun y w' => y = .returned (.tuple #[.string ⟨#[]⟩, .int .i64 2]) ∧ KS w0 w' base bk mm [(b, B7p), (c, Blong)] :=
  ks_ask_no hb0 h (kb4 _) (by decide) (by decide) (by decide) hL
theorem kcs {w0 W : World} {base bk mm : Nat} (hb0 : w0.heap.size ≤ base) (b : Nat) (c : Nat) (h : KS w0 W base bk mm [(b, B7p), (c, Blong)]) (hL : LibOk w0) : Calls Tryd.prog 33 #[.pointer (some ⟨bk, 0, none⟩), .string ⟨#[110, 49, 59]⟩, .int .i64 1, .int .i64 0, .int .i64 0, .int .i64 0, .string (zs 640)] W fun y w' => y = .returned (.tuple #[.string ⟨#[]⟩, .int .i64 2]) ∧ KS w0 w' base bk mm [(b, B7p), (c, Blong)] :=
  ks_ask_no hb0 h (kb5 _) (by decide) (by decide) (by rw [zs_size]; decide) hL
theorem kcname {w0 W : World} {base bk mm k : Nat} {L : List Ent} (hb0 : w0.heap.size ≤ base) (h : KS w0 W base bk mm L) (hF : Filled L k) (hk : k < 254) (hL : LibOk w0) : Calls Tryd.prog 33 #[.pointer (some ⟨bk, 0, none⟩), .string (nameS ((100 + k : Nat) : Int)), .int .i64 1, .int .i64 0, .int .i64 0, .int .i64 0, .string ⟨#[]⟩] W fun y w' => y = .returned (.tuple #[.string (hashL (nameS ((100 + k : Nat) : Int))), .int .i64 0]) ∧ ∃ L', KS w0 w' base bk mm L' ∧ Filled L' (k + 1) := by
  have hz : (nameS ((100 + k : Nat) : Int)).size ≤ maxLen := Nat.le_trans (right_size (okName_at (show k < 256 by omega)).1) (by decide)
  exact (ks_ask_yes hb0 h (filled_ask hF hk) hz (by decide) hL).mono fun y w' ⟨h1, bb, h2⟩ => ⟨h1, _, h2, filled_next hF bb⟩
theorem kcfull {w0 W : World} {base bk mm : Nat} {L : List Ent} (hb0 : w0.heap.size ≤ base) (h : KS w0 W base bk mm L) (hF : Filled L 254) (hL : LibOk w0) : Calls Tryd.prog 33 #[.pointer (some ⟨bk, 0, none⟩), .string ⟨#[110, 57, 57, 59]⟩, .int .i64 1, .int .i64 0, .int .i64 0, .int .i64 0, .string ⟨#[]⟩] W fun y w' => y = .returned (.tuple #[.string ⟨#[]⟩, .int .i64 3]) ∧ KS w0 w' base bk mm L :=
  ks_ask_no hb0 h (filled_full hF) (by decide) (by decide) (by decide) hL
theorem Tryd.info73 : (Tryd.prog.info? 73).map (fun i => (i.zero, i.size, i.bytes)) = some (some (.agg #[.string ⟨#[]⟩, .int .i64 0, .int .i64 0, .int .i64 0, .int .i64 0, .int .i64 0]), 6, 56) := by kernel_rfl
def ofrA : Array Value := (ofrs.flatMap Ofr.cells).toArray
theorem ofr_at {j : Nat} (hj : j < 10) : ∃ o ∈ ofrs, ∀ i, i < 6 → ofrA[j * 6 + i]? = o.cells[i]? := by
  rcases (by omega : j = 0 ∨ j = 1 ∨ j = 2 ∨ j = 3 ∨ j = 4 ∨ j = 5 ∨ j = 6 ∨ j = 7 ∨ j = 8 ∨ j = 9) with rfl | rfl | rfl | rfl | rfl | rfl | rfl | rfl | rfl | rfl
  · exact ⟨ofrs[0]'(by decide), List.getElem_mem _, fun i hi => by rcases (by omega : i = 0 ∨ i = 1 ∨ i = 2 ∨ i = 3 ∨ i = 4 ∨ i = 5) with rfl | rfl | rfl | rfl | rfl | rfl <;> rfl⟩
  · exact ⟨ofrs[1]'(by decide), List.getElem_mem _, fun i hi => by rcases (by omega : i = 0 ∨ i = 1 ∨ i = 2 ∨ i = 3 ∨ i = 4 ∨ i = 5) with rfl | rfl | rfl | rfl | rfl | rfl <;> rfl⟩
  · exact ⟨ofrs[2]'(by decide), List.getElem_mem _, fun i hi => by rcases (by omega : i = 0 ∨ i = 1 ∨ i = 2 ∨ i = 3 ∨ i = 4 ∨ i = 5) with rfl | rfl | rfl | rfl | rfl | rfl <;> rfl⟩
  · exact ⟨ofrs[3]'(by decide), List.getElem_mem _, fun i hi => by rcases (by omega : i = 0 ∨ i = 1 ∨ i = 2 ∨ i = 3 ∨ i = 4 ∨ i = 5) with rfl | rfl | rfl | rfl | rfl | rfl <;> rfl⟩
  · exact ⟨ofrs[4]'(by decide), List.getElem_mem _, fun i hi => by rcases (by omega : i = 0 ∨ i = 1 ∨ i = 2 ∨ i = 3 ∨ i = 4 ∨ i = 5) with rfl | rfl | rfl | rfl | rfl | rfl <;> rfl⟩
  · exact ⟨ofrs[5]'(by decide), List.getElem_mem _, fun i hi => by rcases (by omega : i = 0 ∨ i = 1 ∨ i = 2 ∨ i = 3 ∨ i = 4 ∨ i = 5) with rfl | rfl | rfl | rfl | rfl | rfl <;> rfl⟩
  · exact ⟨ofrs[6]'(by decide), List.getElem_mem _, fun i hi => by rcases (by omega : i = 0 ∨ i = 1 ∨ i = 2 ∨ i = 3 ∨ i = 4 ∨ i = 5) with rfl | rfl | rfl | rfl | rfl | rfl <;> rfl⟩
  · exact ⟨ofrs[7]'(by decide), List.getElem_mem _, fun i hi => by rcases (by omega : i = 0 ∨ i = 1 ∨ i = 2 ∨ i = 3 ∨ i = 4 ∨ i = 5) with rfl | rfl | rfl | rfl | rfl | rfl <;> rfl⟩
  · exact ⟨ofrs[8]'(by decide), List.getElem_mem _, fun i hi => by rcases (by omega : i = 0 ∨ i = 1 ∨ i = 2 ∨ i = 3 ∨ i = 4 ∨ i = 5) with rfl | rfl | rfl | rfl | rfl | rfl <;> rfl⟩
  · exact ⟨ofrs[9]'(by decide), List.getElem_mem _, fun i hi => by rcases (by omega : i = 0 ∨ i = 1 ∨ i = 2 ∨ i = 3 ∨ i = 4 ∨ i = 5) with rfl | rfl | rfl | rfl | rfl | rfl <;> rfl⟩
def OfrAt (w : World) (g : Nat) : Prop := w.heap[g]? = some (.cells ofrA 73 (0, 0))

set_option maxRecDepth 100000 in
set_option maxHeartbeats 64000000 in
theorem bookKnown_any (w : World) (hL : LibOk w) (hT : Tab w) : Calls Tryd.prog 11 #[] w fun e w' => e = .returned (.bool true) ∧ Below w.heap.size w w' := by
  have HL := Lib.hid hL
  have HT := Lib.hid hT
  have LW : Hid (∀ W, Below w.heap.size w W → Calls Tryd.prog 26 #[] W fun e w' => e = .returned (.bool true) ∧ Below W.heap.size W w') := fun W hW => bworks_any W (hL.below hW)
  have HTX : Hid (∀ W, Below w.heap.size w W → Calls Tryd.prog 39 #[.string (zs 633)] W fun e w' => e = .returned (.tuple #[.string longT, .int .i64 0]) ∧ Below W.heap.size W w') := fun W hW => by
    have := text_any (zs 633) W (by rw [zs_size]; decide) (hT.below hW)
    rw [text_long] at this; exact this
  have HTY : Hid (∀ W, Below w.heap.size w W → Calls Tryd.prog 39 #[.string (zs 634)] W fun e w' => e = .returned (.tuple #[.string longerT, .int .i64 0]) ∧ Below W.heap.size W w') := fun W hW => by
    have := text_any (zs 634) W (by rw [zs_size]; decide) (hT.below hW)
    rw [text_longer] at this; exact this
  clear hL hT
  obtain ⟨i0, hi0, hz0, hz1, hz2⟩ := info_parts Tryd.info73
  go_enter Tryd.func11, Tryd.ntmps11
  go_upto_region 2 with (go_at_call 27; (with_reducible refine Calls.mono (bnew_any w) ?_); rintro e w1 ⟨bk, mm, rfl, hr1, hb1⟩; have K1 : Hid (KS w w1 w.heap.size bk mm []) := ⟨_, hr1, hb1⟩; clear hr1 hb1)
  obtain ⟨base, hbs⟩ : ∃ base, w.heap.size = base := ⟨_, rfl⟩
  have hb0 : w.heap.size ≤ base := by omega
  rw [hbs] at K1
  clear hbs
  go_upto_region 3 with (go_at_call 33; (with_reducible refine Calls.mono (kc1 hb0 K1.out HL.out) ?_); rintro e w2 ⟨rfl, b1, k⟩; have K2 := Lib.hid k; clear k)
  go_upto_region 4 with (go_at_call 33; (with_reducible refine Calls.mono (kc2 hb0 b1 K2.out HL.out) ?_); rintro e w3 ⟨rfl, k⟩; have K3 := Lib.hid k; clear k)
  go_upto_region 5 with (go_at_call 33; (with_reducible refine Calls.mono (kc3 hb0 b1 K3.out HL.out) ?_); rintro e w4 ⟨rfl, k⟩; have K4 := Lib.hid k; clear k)
  go_upto_region 7 with fail
  have hgen : w4.alloc (.cells #[.string ⟨#[72, 110, 55, 59]⟩, .int .i64 1000, .int .i64 60, .int .i64 5, .int .i64 14, .int .i64 0, .string ⟨#[72, 110, 56, 59]⟩, .int .i64 1000, .int .i64 60, .int .i64 5, .int .i64 14, .int .i64 230, .string ⟨#[72, 110, 55, 59]⟩, .int .i64 999, .int .i64 60, .int .i64 5, .int .i64 14, .int .i64 233, .string ⟨#[72, 110, 55, 59]⟩, .int .i64 2000, .int .i64 150, .int .i64 5, .int .i64 14, .int .i64 0, .string ⟨#[72, 110, 55, 59]⟩, .int .i64 2001, .int .i64 60, .int .i64 5, .int .i64 14, .int .i64 233, .string ⟨#[72, 110, 55, 59]⟩, .int .i64 1000, .int .i64 151, .int .i64 5, .int .i64 14, .int .i64 231, .string ⟨#[72, 110, 55, 59]⟩, .int .i64 1000, .int .i64 (-9223372036854775808), .int .i64 5, .int .i64 14, .int .i64 0, .string ⟨#[72, 110, 55, 59]⟩, .int .i64 1000, .int .i64 60, .int .i64 5, .int .i64 13, .int .i64 241, .string ⟨#[72, 110, 55, 59]⟩, .int .i64 1000, .int .i64 60, .int .i64 (-1), .int .i64 14, .int .i64 241, .string ⟨#[72, 110, 55, 59]⟩, .int .i64 1000, .int .i64 60, .int .i64 2147483648, .int .i64 2147483648, .int .i64 241] 73) = w4.alloc (.cells ofrA 73) := rfl
  rw [hgen]
  have K5 := Lib.hid (K4.out.next (below_new' w4 (.cells ofrA 73)))
  have HO5 : Hid (OfrAt (w4.alloc (.cells ofrA 73)) w4.heap.size) := heap_alloc_at _ _
  generalize w4.alloc (.cells ofrA 73) = w5 at K5 HO5 ⊢
  generalize w4.heap.size = ga at HO5 ⊢
  clear hgen
  go_wp2_with fail
  go_loopw [10] (fun iv wr => ∃ j : Nat, j ≤ 10 ∧ iv = .int .i64 j ∧ Hid (KS w wr base bk mm [(b1, B7)]) ∧ Hid (OfrAt wr ga)) (fun iv _ => 10 - (intOf iv).toNat)
  case atStart => exact ⟨0, by omega, rfl, K5, HO5⟩
  case round =>
    obtain ⟨j, hj, rfl, hK, hO⟩ := hrel
    by_cases hlt : j < 10
    · have hji : (j : Int) < 10 := by omega
      obtain ⟨o, ho, hcs⟩ := ofr_at hlt
      obtain ⟨u, hV⟩ := offV_want b1 o ho
      obtain ⟨ox, oa, on, oh, oe, ow⟩ := o
      have hcell : ∀ i, i < 6 → wr.cell? ⟨ga, j * 6 + i, none⟩ = (Ofr.cells ⟨ox, oa, on, oh, oe, ow⟩)[i]? := fun i hi => by rw [cell_of_row _ _ _ _ _ _ hO.out]; exact hcs i hi
      have a0 : wr.cell? ⟨ga, j * 6, none⟩ = some (.string ox) := hcell 0 (by omega)
      have a1 : wr.cell? ⟨ga, j * 6 + 1, none⟩ = some (.int .i64 oa) := hcell 1 (by omega)
      have a2 : wr.cell? ⟨ga, j * 6 + 2, none⟩ = some (.int .i64 on) := hcell 2 (by omega)
      have a3 : wr.cell? ⟨ga, j * 6 + 3, none⟩ = some (.int .i64 oh) := hcell 3 (by omega)
      have a4 : wr.cell? ⟨ga, j * 6 + 4, none⟩ = some (.int .i64 oe) := hcell 4 (by omega)
      have a5 : wr.cell? ⟨ga, j * 6 + 5, none⟩ = some (.int .i64 ow) := hcell 5 (by omega)
      have HOF : Hid (∀ n : Later wr, Calls Tryd.prog 29 #[.pointer (some ⟨bk, 0, none⟩), .string ox, .int .i64 oa, .int .i64 on, .int .i64 oh, .int .i64 oe] n.at_ fun y w' => y = .returned (.tuple #[.string u, .int .i64 ow]) ∧ Below n.at_.heap.size n.at_ w') := fun n => ks_offer (hK.out.next n.below) hV
      replace a0 := Later.cell a0; replace a1 := Later.cell a1; replace a2 := Later.cell a2; replace a3 := Later.cell a3; replace a4 := Later.cell a4; replace a5 := Later.cell a5
      clear ho hcs hV hcell
      go_upto_region 10 with fail
      refine wp_region_later (by kernel_rfl) (by kernel_rfl) ?_
      repeat (go_big_quiet_step ((go_at_call 29; exact calls_later (HOF.out _))))
      refine wpQuiet_nil ?_
      intro _ hw'
      obtain ⟨nq, rfl⟩ := hw'
      go_wp2
      go_roundw
      case rel => exact ⟨j + 1, by omega, by go_num, hK.out.next nq.below, (nq.below.block ga (lt_of_heap hO.out)).trans hO.out⟩
      case measure => simp [intOf]; omega
    · obtain rfl : j = 10 := by omega
      clear hO HO5 K5
      have S9 : Hid (∀ W, KS w W base bk mm [(b1, B7)] → Calls Tryd.prog 31 #[.pointer (some ⟨bk, 0, none⟩), .string ⟨#[72, 110, 57, 59]⟩] W fun y w' => y = .returned (.int .i64 230) ∧ KS w w' base bk mm [(b1, B7)]) := fun W h => ks_settled hb0 h (ks9 b1)
      have S7 : Hid (∀ W, KS w W base bk mm [(b1, B7)] → Calls Tryd.prog 31 #[.pointer (some ⟨bk, 0, none⟩), .string ⟨#[72, 110, 55, 59]⟩] W fun y w' => y = .returned (.int .i64 0) ∧ KS w w' base bk mm [(b1, B7p)]) := fun W h => ks_settled hb0 h (ks7 b1)
      have S7p : Hid (∀ W, KS w W base bk mm [(b1, B7p)] → Calls Tryd.prog 31 #[.pointer (some ⟨bk, 0, none⟩), .string ⟨#[72, 110, 55, 59]⟩] W fun y w' => y = .returned (.int .i64 232) ∧ KS w w' base bk mm [(b1, B7p)]) := fun W h => ks_settled hb0 h (ks7p b1)
      have P1 : Hid (∀ W, KS w W base bk mm [(b1, B7p)] → Calls Tryd.prog 32 #[.pointer (some ⟨bk, 0, none⟩), .int .i64 1099511627776] W fun y w' => y = .returned (.int .i64 0) ∧ KS w w' base bk mm [(b1, B7p)]) := fun W h => ks_prune hb0 h (kp1 b1) (by rfl)
      have O7 : Hid (∀ W, KS w W base bk mm [(b1, B7p)] → Calls Tryd.prog 29 #[.pointer (some ⟨bk, 0, none⟩), .string ⟨#[72, 110, 55, 59]⟩, .int .i64 1000, .int .i64 60, .int .i64 5, .int .i64 14] W fun y w' => y = .returned (.tuple #[.string ⟨#[]⟩, .int .i64 232]) ∧ Below W.heap.size W w') := fun W h => ks_offer h (ko7p b1)
      have P5 : Hid (∀ W b2, KS w W base bk mm [(b1, B7p), (b2, B8)] → Calls Tryd.prog 32 #[.pointer (some ⟨bk, 0, none⟩), .int .i64 5] W fun y w' => y = .returned (.int .i64 0) ∧ KS w w' base bk mm [(b1, B7p), (b2, B8)]) := fun W b2 h => ks_prune hb0 h (kp5 b1 b2) (by rfl)
      have P6 : Hid (∀ W b2, KS w W base bk mm [(b1, B7p), (b2, B8)] → Calls Tryd.prog 32 #[.pointer (some ⟨bk, 0, none⟩), .int .i64 6] W fun y w' => y = .returned (.int .i64 1) ∧ KS w w' base bk mm [(b1, B7p)]) := fun W b2 h => ks_prune hb0 h (kp6 b1 b2) (by rfl)
      have O8 : Hid (∀ W b2, KS w W base bk mm [(b1, B7p), (b2, B8)] → Calls Tryd.prog 29 #[.pointer (some ⟨bk, 0, none⟩), .string ⟨#[72, 110, 56, 59]⟩, .int .i64 1, .int .i64 5, .int .i64 0, .int .i64 0] W fun y w' => y = .returned (.tuple #[.string ⟨#[110, 56, 59]⟩, .int .i64 0]) ∧ Below W.heap.size W w') := fun W b2 h => ks_offer h (ko8 b1 b2)
      have O8a : Hid (∀ W b2, KS w W base bk mm [(b1, B7p), (b2, B8)] → Calls Tryd.prog 29 #[.pointer (some ⟨bk, 0, none⟩), .string ⟨#[72, 110, 56, 59]⟩, .int .i64 0, .int .i64 5, .int .i64 0, .int .i64 0] W fun y w' => y = .returned (.tuple #[.string ⟨#[]⟩, .int .i64 233]) ∧ Below W.heap.size W w') := fun W b2 h => ks_offer h (ko8a b1 b2)
      have O8b : Hid (∀ W b2, KS w W base bk mm [(b1, B7p), (b2, B8)] → Calls Tryd.prog 29 #[.pointer (some ⟨bk, 0, none⟩), .string ⟨#[72, 110, 56, 59]⟩, .int .i64 2100000000000000001, .int .i64 5, .int .i64 0, .int .i64 0] W fun y w' => y = .returned (.tuple #[.string ⟨#[]⟩, .int .i64 233]) ∧ Below W.heap.size W w') := fun W b2 h => ks_offer h (ko8b b1 b2)
      have C2 : Hid (∀ W, KS w W base bk mm [(b1, B7p)] → Calls Tryd.prog 36 #[.pointer (some ⟨bk, 0, none⟩)] W fun y w' => y = .returned (.int .i64 1) ∧ Below W.heap.size W w') := fun W h => ks_count h (by rfl)
      clear hi0 hz0 hz1 hz2 hj
      go_upto_region 14 with (first
            | (go_at_call 32; (with_reducible refine Calls.mono (P1.out _ K8.out) ?_); rintro e w9 ⟨rfl, k⟩; have K9 := Lib.hid k; clear k)
            | (go_at_call 31; (with_reducible refine Calls.mono (S7p.out _ K7.out) ?_); rintro e w8 ⟨rfl, k⟩; have K8 := Lib.hid k; clear k)
            | (go_at_call 31; (with_reducible refine Calls.mono (S7.out _ K6.out) ?_); rintro e w7 ⟨rfl, k⟩; have K7 := Lib.hid k; clear k)
            | (go_at_call 31; (with_reducible refine Calls.mono (S9.out _ hK.out) ?_); rintro e w6 ⟨rfl, k⟩; have K6 := Lib.hid k; clear k))
      go_upto_region 15 with (go_at_call 29; (with_reducible refine Calls.mono (O7.out _ K9.out) ?_); rintro e w10 ⟨rfl, hb⟩; have K10 := Lib.hid (K9.out.next hb); clear hb)
      go_upto_region 16 with (go_at_call 33; (with_reducible refine Calls.mono (kc8 hb0 b1 K10.out HL.out) ?_); rintro e w11 ⟨rfl, b2, k⟩; have K11 := Lib.hid k; clear k)
      go_upto_region 17 with (go_at_call 29; (with_reducible refine Calls.mono (O8.out _ b2 K11.out) ?_); rintro e w12 ⟨rfl, hb⟩; have K12 := Lib.hid (K11.out.next hb); clear hb)
      go_upto_region 18 with (go_at_call 29; (with_reducible refine Calls.mono (O8a.out _ b2 K12.out) ?_); rintro e w13 ⟨rfl, hb⟩; have K13 := Lib.hid (K12.out.next hb); clear hb)
      go_upto_region 19 with (go_at_call 29; (with_reducible refine Calls.mono (O8b.out _ b2 K13.out) ?_); rintro e w14 ⟨rfl, hb⟩; have K14 := Lib.hid (K13.out.next hb); clear hb)
      go_upto_region 20 with (first
            | (go_at_call 36; (with_reducible refine Calls.mono (C2.out _ K16.out) ?_); rintro e w17 ⟨rfl, hb⟩; have K17 := Lib.hid (K16.out.next hb); clear hb)
            | (go_at_call 32; (with_reducible refine Calls.mono (P6.out _ b2 K15.out) ?_); rintro e w16 ⟨rfl, k⟩; have K16 := Lib.hid k; clear k)
            | (go_at_call 32; (with_reducible refine Calls.mono (P5.out _ b2 K14.out) ?_); rintro e w15 ⟨rfl, k⟩; have K15 := Lib.hid k; clear k))
      clear S9 S7 S7p P1 O7 P5 P6 O8 O8a O8b C2
      obtain ⟨F1, mk1, cv1, HF1⟩ := zeros_make 633 (by decide)
      obtain ⟨F2, mk2, cv2, HF2⟩ := zeros_make 634 (by decide)
      obtain ⟨F3, mk3, cv3, HF3⟩ := zeros_make 640 (by decide)
      simp only [show ((633 : Nat) : Int) = 633 from rfl] at mk1
      simp only [show ((634 : Nat) : Int) = 634 from rfl] at mk2
      simp only [show ((640 : Nat) : Int) = 640 from rfl] at mk3
      have K17a := Lib.hid (K17.out.next (HF1.out w17))
      go_upto_region 21 with (go_at_call 39; (with_reducible refine Calls.mono (HTX.out _ K17a.out.bel) ?_); rintro e w18 ⟨rfl, hb⟩; have K18 := Lib.hid (K17a.out.next hb); have K18a := Lib.hid (K18.out.next (HF2.out w18)); clear hb)
      go_upto_region 22 with (go_at_call 39; (with_reducible refine Calls.mono (HTY.out _ K18a.out.bel) ?_); rintro e w19 ⟨rfl, hb⟩; have K19 := Lib.hid (K18a.out.next hb); clear hb)
      go_upto_region 23 with (go_at_call 33; (with_reducible refine Calls.mono (kclong hb0 b1 K19.out HL.out) ?_); rintro e w20 ⟨rfl, b3, k⟩; have K20 := Lib.hid k; clear k)
      go_upto_region 24 with (go_at_call 33; (with_reducible refine Calls.mono (kclonger hb0 b1 b3 K20.out HL.out) ?_); rintro e w21 ⟨rfl, k⟩; have K21 := Lib.hid k; clear k)
      go_upto_region 25 with (go_at_call 33; (with_reducible refine Calls.mono (kcm hb0 b1 b3 K21.out HL.out) ?_); rintro e w22 ⟨rfl, k⟩; have K22 := Lib.hid k; clear k)
      go_upto_region 26 with (go_at_call 33; (with_reducible refine Calls.mono (kcn hb0 b1 b3 K22.out HL.out) ?_); rintro e w23 ⟨rfl, k⟩; have K23 := Lib.hid k; clear k)
      go_upto_region 27 with (go_at_call 33; (with_reducible refine Calls.mono (kce hb0 b1 b3 K23.out HL.out) ?_); rintro e w24 ⟨rfl, k⟩; have K24 := Lib.hid k; clear k)
      go_upto_region 28 with (go_at_call 33; (with_reducible refine Calls.mono (kcd hb0 b1 b3 K24.out HL.out) ?_); rintro e w25 ⟨rfl, k⟩; have K25 := Lib.hid k; clear k; have K25a := Lib.hid (K25.out.next (HF3.out w25)))
      go_upto_region 29 with (go_at_call 33; (with_reducible refine Calls.mono (kcs hb0 b1 b3 K25a.out HL.out) ?_); rintro e w26 ⟨rfl, k⟩; have K26 := Lib.hid k; clear k)
      clear mk1 mk2 mk3 cv1 cv2 cv3
      go_wp2_with fail
      have HFS := Lib.hid (filled_start b1 b3)
      go_loopw [44] (fun iv wr => ∃ (k : Nat) (i : Int) (L : List Ent), k ≤ 254 ∧ iv = .int .i64 i ∧ i = 100 + k ∧ Hid (KS w wr base bk mm L) ∧ Hid (Filled L k)) (fun iv _ => 354 - (intOf iv).toNat)
      case atStart => exact ⟨0, 100, _, by omega, rfl, rfl, K26, HFS⟩
      case round =>
        obtain ⟨k, i, L, hk, rfl, hi, hK, hF⟩ := hrel
        have HC : Hid (∀ W, KS w W base bk mm L → Calls Tryd.prog 36 #[.pointer (some ⟨bk, 0, none⟩)] W fun y w' => y = .returned (.int .i64 (2 + k)) ∧ Below W.heap.size W w') := fun W h => ks_count h (by rw [hF.out.1]; omega)
        by_cases hlt : k < 254
        · have hki : (k : Int) < 254 := by omega
          have hi0 : 100 ≤ i := by omega
          have hi1 : i ≤ 354 := by omega
          have HI := Lib.hid hi
          have HNM : Hid (∀ W, Below w.heap.size w W → Calls Tryd.prog 40 #[.int .i64 i] W fun e w' => e = .returned (.tuple #[.string (nameS i), .int .i64 0]) ∧ Below W.heap.size W w') := fun W hW => name_pos i W (by omega) (by omega) (HT.out.below hW)
          obtain ⟨nm, hnm⟩ : ∃ nm, nameS i = nm := ⟨_, rfl⟩
          obtain ⟨hh, hhh⟩ : ∃ hh, hashL nm = hh := ⟨_, rfl⟩
          have HAK : Hid (∀ W, KS w W base bk mm L → Calls Tryd.prog 33 #[.pointer (some ⟨bk, 0, none⟩), .string nm, .int .i64 1, .int .i64 0, .int .i64 0, .int .i64 0, .string ⟨#[]⟩] W fun y w' => y = .returned (.tuple #[.string hh, .int .i64 0]) ∧ ∃ L', KS w w' base bk mm L' ∧ Filled L' (k + 1)) := fun W h => by
            have := kcname hb0 h hF.out hlt HL.out
            rw [show ((100 + k : Nat) : Int) = i by omega, hnm, hhh] at this
            exact this
          rw [hnm] at HNM
          clear hnm hhh hi
          go_wp2_with (first
            | (go_at_call 33; (with_reducible refine Calls.mono (HAK.out _ Kc.out) ?_); rintro e wd ⟨rfl, L', k', f'⟩; have Kd := Lib.hid k'; have Fd := Lib.hid f'; clear k' f')
            | (go_at_call 40; (with_reducible refine Calls.mono (HNM.out _ Kb.out.bel) ?_); rintro e wc ⟨rfl, hb⟩; have Kc := Lib.hid (Kb.out.next hb); clear hb)
            | (go_at_call 36; (with_reducible refine Calls.mono (HC.out _ hK.out) ?_); rintro e wb ⟨rfl, hb⟩; have Kb := Lib.hid (hK.out.next hb); clear hb))
          go_roundw
          case rel => exact ⟨k + 1, i + 1, L', by omega, by first | rfl | go_num, by have := HI.out; omega, Kd, Fd⟩
          case measure => (simp [intOf]; have := HI.out; omega)
        · obtain rfl : k = 254 := by omega
          simp only [show ((2 : Int) + ((254 : Nat) : Int)) = 256 from rfl] at HC
          have LWW := LW
          go_upto_region 37 with (go_at_call 36; (with_reducible refine Calls.mono (HC.out _ hK.out) ?_); rintro e wb ⟨rfl, hb⟩; have Kb := Lib.hid (hK.out.next hb); clear hb)
          go_upto_region 38 with (go_at_call 33; (with_reducible refine Calls.mono (kcfull hb0 Kb.out hF.out HL.out) ?_); rintro e wc ⟨rfl, k⟩; have Bc := Lib.hid k.bel; clear k)
          go_upto_region 40 with (go_at_call 33; (with_reducible refine Calls.mono (nil_ask _ _ _ _ _ _ _) ?_); rintro e wd ⟨rfl, hb⟩; have Bd := Lib.hid (Bc.out.trans (hb.mono Bc.out.size)); clear hb)
          go_upto_region 41 with (go_at_call 29; (with_reducible refine Calls.mono (nil_offer _ _ _ _ _ _) ?_); rintro e we ⟨rfl, hb⟩; have Be := Lib.hid (Bd.out.trans (hb.mono Bd.out.size)); clear hb)
          have NB : Hid (∀ W, Calls Tryd.prog 34 #[.pointer none, .string ⟨#[72, 110, 55, 59]⟩] W fun e w' => e = .returned (.tuple #[.agg #[.string ⟨#[]⟩, .string ⟨#[]⟩, .int .i64 0, .int .i64 0, .int .i64 0, .int .i64 0, .string ⟨#[]⟩, .bool false], .bool false]) ∧ Below W.heap.size W w') := fun W => nil_bill _ W
          have NI : Hid (∀ W, Calls Tryd.prog 35 #[.pointer none, .string ⟨#[72, 110, 55, 59]⟩, .string ⟨#[]⟩] W fun e w' => e = .returned (.tuple #[.agg #[.int .i64 0, .int .i64 0, .string ⟨#[]⟩, .string ⟨#[]⟩, .string ⟨#[]⟩, .int .i64 0, .int .i64 0, .string ⟨#[]⟩], .int .i64 1]) ∧ Below W.heap.size W w') := fun W => nil_invoice _ _ W
          go_upto_region 42 with (go_at_call 34; (with_reducible refine Calls.mono (NB.out _) ?_); rintro e wf ⟨rfl, hb⟩; have Bf := Lib.hid (Be.out.trans (hb.mono Be.out.size)); clear hb)
          have Bg := Lib.hid (Bf.out.alloc Bf.out.size (.cells #[.string ⟨#[]⟩, .string ⟨#[]⟩, .int .i64 0, .int .i64 0, .int .i64 0, .int .i64 0, .string ⟨#[]⟩, .bool false] 58))
          generalize wf.alloc (.cells #[.string ⟨#[]⟩, .string ⟨#[]⟩, .int .i64 0, .int .i64 0, .int .i64 0, .int .i64 0, .string ⟨#[]⟩, .bool false] 58) = wg at Bg ⊢
          go_upto_region 43 with (go_at_call 35; (with_reducible refine Calls.mono (NI.out _) ?_); rintro e wh ⟨rfl, hb⟩; have Bh := Lib.hid (Bg.out.trans (hb.mono Bg.out.size)); clear hb)
          have Bi := Lib.hid (Bh.out.alloc Bh.out.size (.cells #[.int .i64 0, .int .i64 0, .string ⟨#[]⟩, .string ⟨#[]⟩, .string ⟨#[]⟩, .int .i64 0, .int .i64 0, .string ⟨#[]⟩] 62))
          generalize wh.alloc (.cells #[.int .i64 0, .int .i64 0, .string ⟨#[]⟩, .string ⟨#[]⟩, .string ⟨#[]⟩, .int .i64 0, .int .i64 0, .string ⟨#[]⟩] 62) = wi at Bi ⊢
          go_wp2_with (first
            | (go_at_call 26; (with_reducible refine Calls.mono (LW.out _ Bm.out) ?_); rintro e wn ⟨rfl, hb⟩; have Bn := Lib.hid (Bm.out.trans (hb.mono Bm.out.size)); clear hb)
            | (go_at_call 36; (with_reducible refine Calls.mono (nil_count _) ?_); rintro e wm ⟨rfl, hb⟩; have Bm := Lib.hid (Bl.out.trans (hb.mono Bl.out.size)); clear hb)
            | (go_at_call 32; (with_reducible refine Calls.mono (nil_prune _ _) ?_); rintro e wl ⟨rfl, hb⟩; have Bl := Lib.hid (Bk.out.trans (hb.mono Bk.out.size)); clear hb)
            | (go_at_call 41; (with_reducible refine Calls.mono (nil_bills _) ?_); rintro e wk ⟨rfl, hb⟩; have Bk := Lib.hid (Bj.out.trans (hb.mono Bj.out.size)); clear hb)
            | (go_at_call 31; (with_reducible refine Calls.mono (nil_settled _ _) ?_); rintro e wj ⟨rfl, hb⟩; have Bj := Lib.hid (Bi.out.trans (hb.mono Bi.out.size)); clear hb))
          go_ret
          exact ⟨rfl, Bn.out⟩
end Go.Proofs.YtnaodgljdbkmnaaDoor
