/- term, the document's: read, but for parts. -/
import Derived.Test.YtlheoipengndnabDoorRefD
namespace Go.Proofs.YtlheoipengndnabDoor
set_option linter.unusedVariables false
open Go.RowKit
/-- what the document's read answers -/
def CutPost (s : ByteArray) (o : Option (Sh × List UInt8)) (w : World) (e : Ending) (w' : World) : Prop :=
  Below w.heap.size w w' ∧
    (o = none → ∃ (d n f : Int) (ko : Option Addr) (km kc : Nat), e = .returned (.agg #[.int .i64 (-1), .int .i64 d, .int .u64 n, .int .i64 f, .slice ko km kc])) ∧
    (∀ x rest, o = some (x, rest) → ∃ (n f : Nat) (ko : Option Addr) (km kc : Nat), e = .returned (.agg #[.int .i64 ((s.size - rest.length : Nat) : Int), .int .i64 x.deep, .int .u64 n, .int .i64 f, .slice ko km kc]) ∧
      (x.op = 110 → n = x.n) ∧ (x.op = 116 → f ≤ s.size - rest.length ∧ (s.data.toList.drop f).take (s.size - rest.length - f) = x.text) ∧
      ((x.kids = [] ∧ (Value.slice ko km kc) = .slice none 0 0) ∨ ∃ p, s.data.toList.drop p = x.kids.flatten ++ rest ∧ w'.ownsRow w.heap.size 3 1 (.slice ko km kc) (x.kids.length + 1) ((offs p x.kids).map I)))
theorem info55 : (Tryd.prog.info? 70).map (·.size) = some 5 := by kernel_rfl
theorem info5c (a b c d : Int) (kv : Value) : (Tryd.prog.info? 70).map (·.size) = some (#[.int .i64 a, .int .i64 b, .int .u64 c, .int .i64 d, kv] : Array Value).size := info55
theorem size5c (a b c d : Int) (kv : Value) (a' b' c' d' : Int) (kv' : Value) : (#[.int .i64 a, .int .i64 b, .int .u64 c, .int .i64 d, kv] : Array Value).size = (#[.int .i64 a', .int .i64 b', .int .u64 c', .int .i64 d', kv'] : Array Value).size := rfl
theorem one5c (a b c d : Int) (x : Option Addr) (l k : Nat) : (#[.int .i64 a, .int .i64 b, .int .u64 c, .int .i64 d, .slice x l k] : Array Value).all (·.oneCell') = true := by simp [Value.oneCell']
theorem results_cell1 {fn : Func} {t : Tmp} {ty : TypeId} (h : fn.results = #[.cell t ty]) (tmps : Array Value) (P : Program) (w : World) {ad : Addr} {v : Value} (hp : tmps.getD t undef = .pointer (some ad)) (hl : (loadVar ty ad).run P w = .ok v w) : (results fn tmps).run P w = .ok v w := by
  simp only [Array.getD_eq_getD_getElem?] at hp
  simp [results, h, hp, asAddr, hl]
set_option maxRecDepth 100000 in
set_option maxHeartbeats 2000000 in
theorem rread_end (at_ R : Nat) (s : ByteArray) (w : World) (h : s.size ≤ at_) (ha : at_ ≤ 20000) (hs : s.size ≤ 16384) : Calls Tryd.prog 45 #[.string s, .int .i64 at_, .int .i64 R] w (CutPost s none w) := by
  have hi : (s.size : Int) ≤ (at_ : Int) := by omega
  go_enter Tryd.func45, Tryd.ntmps45
  go_upto_region 1 with fail
  have Q0 := Lib.hid (heap_alloc_at w (.cells #[.int .i64 0, .int .i64 0, .int .u64 0, .int .i64 0, .slice none 0 0] 70))
  have B0 := Lib.hid (below_new' w (.cells #[.int .i64 0, .int .i64 0, .int .u64 0, .int .i64 0, .slice none 0 0] 70))
  generalize w.alloc (.cells #[.int .i64 0, .int .i64 0, .int .u64 0, .int .i64 0, .slice none 0 0] 70) = w0 at Q0 B0 ⊢
  obtain ⟨r6, hr6⟩ : ∃ r6, w.heap.size = r6 := ⟨_, rfl⟩
  have HR6 := Lib.hid hr6
  rw [hr6] at Q0 ⊢
  clear hr6
  have BX := B0
  have QX := Q0
  go_wp2_with (first
    | (go_at_call 51; (with_reducible refine Calls.mono (none_any _) ?_); rintro e w9 ⟨hb9, rfl⟩; have B9 : Hid (Below w.heap.size w w9) := BX.out.trans (hb9.mono BX.out.size); have Q9 : Hid (w9.heap[r6]? = some (.cells #[.int .i64 0, .int .i64 0, .int .u64 0, .int .i64 0, .slice none 0 0] 70 (0, 0))) := (hb9.block r6 (Array.getElem?_eq_some_iff.1 QX.out).1).trans QX.out; clear hb9)
    | (with_reducible refine wpList_store_row rfl 70 (.tmp 6) (.tmp 26) rfl r6 #[.int .i64 (-1), .int .i64 0, .int .u64 0, .int .i64 0, .slice none 0 0] rfl rfl 70 #[.int .i64 0, .int .i64 0, .int .u64 0, .int .i64 0, .slice none 0 0] Q9.out (info5c _ _ _ _ _) (size5c _ _ _ _ _ _ _ _ _ _) (one5c _ _ _ _ _ _ _) ?_))
  have hl := run_loadVar_row (P := Tryd.prog) (w9.setRow r6 #[.int .i64 (-1), .int .i64 0, .int .u64 0, .int .i64 0, .slice none 0 0]) r6 70 70 #[.int .i64 (-1), .int .i64 0, .int .u64 0, .int .i64 0, .slice none 0 0] (0, 0) _ (setRow_heap w9 r6 _ _ 70 _ Q9.out) Tryd.underlying70 rfl (info5c _ _ _ _ _)
  refine bodyPost_ret (results_cell1 Tryd.results45 _ _ _ rfl hl) rfl ⟨below_setRow B9.out (by have := HR6.out; omega) _, fun _ => ⟨_, _, _, _, _, _, rfl⟩, fun x rest h => by cases h⟩

set_option maxRecDepth 100000 in
set_option maxHeartbeats 2000000 in
theorem rread_room (at_ : Nat) (s : ByteArray) (w : World) (h : at_ < s.size) (hs : s.size ≤ 16384) : Calls Tryd.prog 45 #[.string s, .int .i64 at_, .int .i64 0] w (CutPost s none w) := by
  have hi : (at_ : Int) < (s.size : Int) := by omega
  go_enter Tryd.func45, Tryd.ntmps45
  go_upto_region 1 with fail
  have Q0 := Lib.hid (heap_alloc_at w (.cells #[.int .i64 0, .int .i64 0, .int .u64 0, .int .i64 0, .slice none 0 0] 70))
  have B0 := Lib.hid (below_new' w (.cells #[.int .i64 0, .int .i64 0, .int .u64 0, .int .i64 0, .slice none 0 0] 70))
  generalize w.alloc (.cells #[.int .i64 0, .int .i64 0, .int .u64 0, .int .i64 0, .slice none 0 0] 70) = w0 at Q0 B0 ⊢
  obtain ⟨r6, hr6⟩ : ∃ r6, w.heap.size = r6 := ⟨_, rfl⟩
  have HR6 := Lib.hid hr6
  rw [hr6] at Q0 ⊢
  clear hr6
  have BX := B0
  have QX := Q0
  go_wp2_with (first
    | (go_at_call 51; (with_reducible refine Calls.mono (none_any _) ?_); rintro e w9 ⟨hb9, rfl⟩; have B9 : Hid (Below w.heap.size w w9) := BX.out.trans (hb9.mono BX.out.size); have Q9 : Hid (w9.heap[r6]? = some (.cells #[.int .i64 0, .int .i64 0, .int .u64 0, .int .i64 0, .slice none 0 0] 70 (0, 0))) := (hb9.block r6 (Array.getElem?_eq_some_iff.1 QX.out).1).trans QX.out; clear hb9)
    | (with_reducible refine wpList_store_row rfl 70 (.tmp 6) (.tmp 26) rfl r6 #[.int .i64 (-1), .int .i64 0, .int .u64 0, .int .i64 0, .slice none 0 0] rfl rfl 70 #[.int .i64 0, .int .i64 0, .int .u64 0, .int .i64 0, .slice none 0 0] Q9.out (info5c _ _ _ _ _) (size5c _ _ _ _ _ _ _ _ _ _) (one5c _ _ _ _ _ _ _) ?_))
  have hl := run_loadVar_row (P := Tryd.prog) (w9.setRow r6 #[.int .i64 (-1), .int .i64 0, .int .u64 0, .int .i64 0, .slice none 0 0]) r6 70 70 #[.int .i64 (-1), .int .i64 0, .int .u64 0, .int .i64 0, .slice none 0 0] (0, 0) _ (setRow_heap w9 r6 _ _ 70 _ Q9.out) Tryd.underlying70 rfl (info5c _ _ _ _ _)
  refine bodyPost_ret (results_cell1 Tryd.results45 _ _ _ rfl hl) rfl ⟨below_setRow B9.out (by have := HR6.out; omega) _, fun _ => ⟨_, _, _, _, _, _, rfl⟩, fun x rest h => by cases h⟩


set_option maxRecDepth 100000 in
set_option maxHeartbeats 2000000 in
theorem rread_name (at_ R : Nat) (s : ByteArray) (w : World) (h : at_ < s.size) (hs : s.size ≤ 16384) (hR : R ≤ 63) (hc : s[at_] = 110) : Calls Tryd.prog 45 #[.string s, .int .i64 at_, .int .i64 ((R : Int) + 1)] w (CutPost s (parse (R + 1) (s.data.toList.drop at_)) w) := by
  have hi : (at_ : Int) < (s.size : Int) := by omega
  have q2 : ((R : Int) + 1 == 0) = false := beq_eq_false_iff_ne.mpr (by omega)
  have HN := fun W => Lib.hid (rnumber_any s (at_ + 1) 59 59 rfl (by decide) W (by omega) (by omega))
  have hdrop := drop_cons s at_ h
  rw [hc] at hdrop
  have HP := Lib.hid (parse_rest R 110 (s.data.toList.drop (at_ + 1)))
  rw [hdrop]
  obtain ⟨rr, hrr⟩ : ∃ rr, s.data.toList.drop (at_ + 1) = rr := ⟨_, rfl⟩
  rw [hrr] at HP HN ⊢
  obtain ⟨po, hpo⟩ : ∃ po, parse (R + 1) (110 :: rr) = po := ⟨_, rfl⟩
  rw [hpo] at HP ⊢
  have hc110 : ((s[at_].toNat : Nat) : Int) = 110 := by rw [hc]; rfl
  have e1 : ((at_ + 1 : Nat) : Int) = (at_ : Int) + 1 := rfl
  clear hdrop hrr hpo
  cases ho : num 59 rr with
  | none =>
    rw [ho] at HN
    obtain rfl : po = none := by have := HP.out; simpa [restP, nameO, ho] using this
    have HN : Hid (∀ W, Calls Tryd.prog 52 #[.string s, .int .i64 ((at_ : Int) + 1), .int .u8 59] W fun e w' => W = w' ∧ e = .returned (.tuple #[.int .u64 0, .int .i64 (-1)])) := HN
    clear ho
    go_enter Tryd.func45, Tryd.ntmps45
    go_upto_region 1 with fail
    have Q0 := Lib.hid (heap_alloc_at w (.cells #[.int .i64 0, .int .i64 0, .int .u64 0, .int .i64 0, .slice none 0 0] 70))
    have B0 := Lib.hid (below_new' w (.cells #[.int .i64 0, .int .i64 0, .int .u64 0, .int .i64 0, .slice none 0 0] 70))
    generalize w.alloc (.cells #[.int .i64 0, .int .i64 0, .int .u64 0, .int .i64 0, .slice none 0 0] 70) = w0 at Q0 B0 ⊢
    obtain ⟨r6, hr6⟩ : ∃ r6, w.heap.size = r6 := ⟨_, rfl⟩
    have HR6 := Lib.hid hr6
    rw [hr6] at Q0 ⊢
    clear hr6
    go_wp2_with (first
      | (go_at_call 52; (with_reducible refine Calls.mono (HN.out _) ?_); rintro e w9 ⟨rfl, rfl⟩)
      | (with_reducible refine wpList_store_row rfl 70 (.tmp 6) (.tmp 41) rfl r6 #[.int .i64 (-1), .int .i64 1, .int .u64 0, .int .i64 0, .slice none 0 0] rfl rfl 70 #[.int .i64 0, .int .i64 0, .int .u64 0, .int .i64 0, .slice none 0 0] Q0.out (info5c _ _ _ _ _) (size5c _ _ _ _ _ _ _ _ _ _) (one5c _ _ _ _ _ _ _) ?_))
    have hl := run_loadVar_row (P := Tryd.prog) (w0.setRow r6 #[.int .i64 (-1), .int .i64 1, .int .u64 0, .int .i64 0, .slice none 0 0]) r6 70 70 #[.int .i64 (-1), .int .i64 1, .int .u64 0, .int .i64 0, .slice none 0 0] (0, 0) _ (setRow_heap w0 r6 _ _ 70 _ Q0.out) Tryd.underlying70 rfl (info5c _ _ _ _ _)
    exact bodyPost_ret (results_cell1 Tryd.results45 _ _ _ rfl hl) rfl ⟨below_setRow B0.out (by have := HR6.out; omega) _, fun _ => ⟨_, _, _, _, _, _, rfl⟩, fun x rest h => by cases h⟩
  | some y =>
    obtain ⟨n, r⟩ := y
    rw [ho] at HN
    obtain rfl : po = some (⟨110, n, [], [], 1⟩, r) := by have := HP.out; simpa [restP, nameO, ho, fitsB] using this
    have HN : Hid (∀ W, Calls Tryd.prog 52 #[.string s, .int .i64 ((at_ : Int) + 1), .int .u8 59] W fun e w' => W = w' ∧ e = .returned (.tuple #[.int .u64 n, .int .i64 ((s.size - r.length : Nat) : Int)])) := HN
    obtain ⟨en, hen⟩ : ∃ en : Int, ((s.size - r.length : Nat) : Int) = en := ⟨_, rfl⟩
    have HEN := Lib.hid hen
    rw [hen] at HN
    clear ho hen
    go_enter Tryd.func45, Tryd.ntmps45
    go_upto_region 1 with fail
    have Q0 := Lib.hid (heap_alloc_at w (.cells #[.int .i64 0, .int .i64 0, .int .u64 0, .int .i64 0, .slice none 0 0] 70))
    have B0 := Lib.hid (below_new' w (.cells #[.int .i64 0, .int .i64 0, .int .u64 0, .int .i64 0, .slice none 0 0] 70))
    generalize w.alloc (.cells #[.int .i64 0, .int .i64 0, .int .u64 0, .int .i64 0, .slice none 0 0] 70) = w0 at Q0 B0 ⊢
    obtain ⟨r6, hr6⟩ : ∃ r6, w.heap.size = r6 := ⟨_, rfl⟩
    have HR6 := Lib.hid hr6
    rw [hr6] at Q0 ⊢
    clear hr6
    go_wp2_with (first
      | (go_at_call 52; (with_reducible refine Calls.mono (HN.out _) ?_); rintro e w9 ⟨rfl, rfl⟩)
      | (with_reducible refine wpList_store_row rfl 70 (.tmp 6) (.tmp 41) rfl r6 #[.int .i64 en, .int .i64 1, .int .u64 n, .int .i64 0, .slice none 0 0] rfl rfl 70 #[.int .i64 0, .int .i64 0, .int .u64 0, .int .i64 0, .slice none 0 0] Q0.out (info5c _ _ _ _ _) (size5c _ _ _ _ _ _ _ _ _ _) (one5c _ _ _ _ _ _ _) ?_))
    have hl := run_loadVar_row (P := Tryd.prog) (w0.setRow r6 #[.int .i64 en, .int .i64 1, .int .u64 n, .int .i64 0, .slice none 0 0]) r6 70 70 #[.int .i64 en, .int .i64 1, .int .u64 n, .int .i64 0, .slice none 0 0] (0, 0) _ (setRow_heap w0 r6 _ _ 70 _ Q0.out) Tryd.underlying70 rfl (info5c _ _ _ _ _)
    refine bodyPost_ret (results_cell1 Tryd.results45 _ _ _ rfl hl) rfl ⟨below_setRow B0.out (by have := HR6.out; omega) _, (fun h => by cases h), fun x rest h => ?_⟩
    cases h
    exact ⟨n, 0, none, 0, 0, by rw [HEN.out]; rfl, fun _ => rfl, (fun h => by cases h), .inl ⟨rfl, rfl⟩⟩
end Go.Proofs.YtlheoipengndnabDoor
