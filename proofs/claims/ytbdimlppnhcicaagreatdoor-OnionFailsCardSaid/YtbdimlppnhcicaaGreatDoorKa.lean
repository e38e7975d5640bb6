import Derived.Test.YtbdimlppnhcicaaGreatDoorTermM
import Derived.Test.YtbdimlppnhcicaaGreatDoorBa
import Derived.Deep.CutRange
/- term: the parts of a right term are right terms, and shorter. No program in sight. -/
namespace Go.Proofs.YtbdimlppnhcicaaGreatDoor
set_option linter.unusedVariables false
theorem parse_kids {R : Nat} {l : List UInt8} {x : Sh} {r : List UInt8} (h : parse (R + 1) l = some (x, r)) :
    (∀ c ∈ x.kids, ∃ y, parse R c = some (y, [])) ∧ (∃ c, l = x.op :: (c ++ (x.kids.flatten ++ r))) ∧ (∀ k, arity x.op = some k → x.kids.length = k) ∧ fitsB x.op x.kids = true := by
  cases l with
  | nil => rw [parse_nil] at h; cases h
  | cons op l =>
    simp only [parse] at h
    split at h
    · rename_i h1
      split at h
      · cases h
      · rename_i n t hn
        cases h
        obtain ⟨c, rfl, _⟩ := num_front 59 l _ _ hn
        subst h1
        exact ⟨fun c hc => (by cases hc), ⟨c, by simp⟩, fun k hk => by simp [arity] at hk, rfl⟩
    · rename_i h1
      split at h
      · rename_i h2
        split at h
        · cases h
        · rename_i n t hn
          split at h
          · rename_i hb
            cases h
            obtain ⟨c, rfl, _⟩ := num_front 58 l n t hn
            subst h2
            exact ⟨fun c hc => (by cases hc), ⟨c ++ t.take n, by simp⟩, fun k hk => by simp [arity] at hk, rfl⟩
          · cases h
      · rename_i h2
        split at h
        · cases h
        · rename_i k t hk
          split at h
          · cases h
          · rename_i ks d u hu
            split at h
            · rename_i hf
              cases h
              obtain ⟨c, rfl, _⟩ := many_front op l _ _ hk
              obtain ⟨e1, e2, e3⟩ := kids_each (parse R) (parse_front R) k t ks d _ hu
              refine ⟨fun z hz => (e3 z hz).imp fun y hy => hy.1, ⟨c, by rw [e2]⟩, fun k' hk' => ?_, hf⟩
              have h84 : op ≠ 84 := by intro e; rw [e] at hk'; simp [arity] at hk'
              unfold many at hk
              rw [if_neg h84, hk'] at hk
              simp only [Option.some.injEq, Prod.mk.injEq] at hk
              rw [e1]; exact hk.1.symm
            · cases h
theorem read_parse {l : List UInt8} {x : Sh} (h : readP l = some x) : parse 64 l = some (x, []) ∧ l.length ≤ 16384 := by
  unfold readP at h
  split at h
  · rename_i hl
    refine ⟨?_, hl⟩
    split at h
    · cases h; assumption
    · cases h
  · cases h
theorem mem_flatten_le {k : List UInt8} : ∀ {ks : List (List UInt8)}, k ∈ ks → k.length ≤ ks.flatten.length
  | [], h => by cases h
  | a :: ks, h => by
    rw [List.flatten_cons, List.length_append]
    rcases List.mem_cons.1 h with rfl | h
    · omega
    · have := mem_flatten_le h; omega
/-- the parts of a right term are right, and shorter -/
theorem read_kids {l : List UInt8} {x : Sh} (h : readP l = some x) : ∀ k ∈ x.kids, rightB k = true ∧ k.length < l.length := by
  obtain ⟨hp, hl⟩ := read_parse h
  obtain ⟨e1, ⟨c, e2⟩, _⟩ := parse_kids (R := 63) hp
  intro k hk
  have hlen : k.length < l.length := by
    have := mem_flatten_le hk
    have := congrArg List.length e2
    rw [List.length_cons, List.length_append, List.length_append] at this
    omega
  obtain ⟨y, hy⟩ := e1 k hk
  refine ⟨?_, hlen⟩
  unfold rightB readP
  rw [if_pos (by omega), parse_le (by omega) hy]
  rfl
theorem right_read {l : List UInt8} (h : rightB l = true) : ∃ x, readP l = some x := Option.isSome_iff_exists.1 h
theorem read_head {l : List UInt8} {x : Sh} (h : readP l = some x) : ∃ l', l = x.op :: l' := by
  obtain ⟨_, ⟨c, e⟩, _⟩ := parse_kids (R := 63) (read_parse h).1
  exact ⟨_, e⟩
theorem read_arity {l : List UInt8} {x : Sh} (h : readP l = some x) (k : Nat) (hk : arity x.op = some k) : x.kids.length = k := (parse_kids (R := 63) (read_parse h).1).2.2.1 k hk
/-- the key of a right term, by room -/
def keyF : Nat → List UInt8 → List UInt8
  | 0, _ => []
  | f + 1, l => match readP l with
    | none => []
    | some x =>
      if x.op = 86 then 87 :: (keyF f (nth x.kids 0) ++ keyF f (nth x.kids 1))
      else if x.op = 75 then 76 :: (keyF f (nth x.kids 0) ++ nth x.kids 1)
      else 80 :: l
def keyB (l : List UInt8) : List UInt8 := keyF (l.length + 1) l
end Go.Proofs.YtbdimlppnhcicaaGreatDoor
/- term: the key of a right term, plain. -/
namespace Go.Proofs.YtbdimlppnhcicaaGreatDoor
set_option linter.unusedVariables false
theorem nth_mem {ks : List (List UInt8)} {i : Nat} (h : i < ks.length) : nth ks i ∈ ks := by
  unfold nth
  rw [List.getD_eq_getElem?_getD, List.getElem?_eq_getElem h]
  exact List.getElem_mem h
theorem keyF_enough : ∀ f l, l.length < f → ∀ g, l.length < g → keyF f l = keyF g l
  | 0, l, h, g, hg => by omega
  | f + 1, l, h, 0, hg => by omega
  | f + 1, l, h, g + 1, hg => by
    unfold keyF
    split
    · rfl
    · rename_i x hx
      have hk := read_kids hx
      split
      · rename_i h86
        have hn := read_arity hx 2 (by rw [h86]; rfl)
        have k0 := (hk _ (nth_mem (i := 0) (by omega))).2
        have k1 := (hk _ (nth_mem (i := 1) (by omega))).2
        rw [keyF_enough f _ (by omega) g (by omega), keyF_enough f (nth x.kids 1) (by omega) g (by omega)]
      · split
        · rename_i h75
          have hn := read_arity hx 2 (by rw [h75]; rfl)
          have k0 := (hk _ (nth_mem (i := 0) (by omega))).2
          rw [keyF_enough f _ (by omega) g (by omega)]
        · rfl
theorem keyB_86 {l : List UInt8} {x : Sh} (hx : readP l = some x) (h : x.op = 86) : keyB l = 87 :: (keyB (nth x.kids 0) ++ keyB (nth x.kids 1)) := by
  have hk := read_kids hx
  have hn := read_arity hx 2 (by rw [h]; rfl)
  have k0 := (hk _ (nth_mem (i := 0) (by omega))).2
  have k1 := (hk _ (nth_mem (i := 1) (by omega))).2
  unfold keyB
  rw [keyF, hx]
  simp only []
  rw [if_pos h, keyF_enough l.length _ k0 _ (Nat.lt_succ_self _), keyF_enough l.length _ k1 _ (Nat.lt_succ_self _)]
theorem keyB_75 {l : List UInt8} {x : Sh} (hx : readP l = some x) (h : x.op = 75) : keyB l = 76 :: (keyB (nth x.kids 0) ++ nth x.kids 1) := by
  have hk := read_kids hx
  have hn := read_arity hx 2 (by rw [h]; rfl)
  have k0 := (hk _ (nth_mem (i := 0) (by omega))).2
  unfold keyB
  rw [keyF, hx]
  simp only []
  rw [if_neg (by rw [h]; decide), if_pos h, keyF_enough l.length _ k0 _ (Nat.lt_succ_self _)]
theorem keyB_else {l : List UInt8} {x : Sh} (hx : readP l = some x) (h : x.op ≠ 86) (h' : x.op ≠ 75) : keyB l = 80 :: l := by
  unfold keyB
  rw [keyF, hx]
  simp only []
  rw [if_neg h, if_neg h']
/-- a key is no longer than its term and one byte for each -/
theorem keyB_length : ∀ n l, l.length ≤ n → rightB l = true → (keyB l).length ≤ 2 * l.length := by
  intro n
  induction n with
  | zero =>
    intro l hn hr
    obtain ⟨x, hx⟩ := right_read hr
    obtain ⟨l', e⟩ := read_head hx
    rw [e] at hn; simp at hn
  | succ n ih =>
    intro l hn hr
    obtain ⟨x, hx⟩ := right_read hr
    obtain ⟨l', e⟩ := read_head hx
    have hpos : 1 ≤ l.length := by rw [e]; simp
    have hk := read_kids hx
    obtain ⟨_, ⟨c, e2⟩, _⟩ := parse_kids (R := 63) (read_parse hx).1
    have hl := congrArg List.length e2
    rw [List.length_cons, List.length_append, List.append_nil] at hl
    have two : ∀ ks : List (List UInt8), ks.length = 2 → (nth ks 0).length + (nth ks 1).length = ks.flatten.length := by
      intro ks h2
      obtain ⟨a, b, rfl⟩ := len_two h2
      simp [nth]
    by_cases h86 : x.op = 86
    · have h2 := read_arity hx 2 (by rw [h86]; rfl)
      have t2 := two _ h2
      have k0 := hk _ (nth_mem (i := 0) (by omega))
      have k1 := hk _ (nth_mem (i := 1) (by omega))
      have i0 := ih _ (by omega) k0.1
      have i1 := ih _ (by omega) k1.1
      rw [keyB_86 hx h86, List.length_cons, List.length_append]; omega
    · by_cases h75 : x.op = 75
      · have h2 := read_arity hx 2 (by rw [h75]; rfl)
        have t2 := two _ h2
        have k0 := hk _ (nth_mem (i := 0) (by omega))
        have i0 := ih _ (by omega) k0.1
        rw [keyB_75 hx h75, List.length_cons, List.length_append]; omega
      · rw [keyB_else hx h86 h75, List.length_cons]; omega
end Go.Proofs.YtbdimlppnhcicaaGreatDoor
/- term: key. -/
namespace Go.Proofs.YtbdimlppnhcicaaGreatDoor
set_option linter.unusedVariables false
open Go.RowKit
def keyS (t : ByteArray) : ByteArray := ⟨(keyB t.data.toList).toArray⟩
theorem lt2 {a b c : World} (h : Below a.heap.size a b) (k : Below b.heap.size b c) : Below a.heap.size a c := h.trans (k.mono h.size)
theorem keep3 {w W : World} {p p' p'' : Addr} {v v' v'' : Value} (hb : Below w.heap.size w W) (h0 : w.cell? p = some v) (h1 : w.cell? p' = some v') (h2 : w.cell? p'' = some v'') : Below w.heap.size w W ∧ W.cell? p = some v ∧ W.cell? p' = some v' ∧ W.cell? p'' = some v'' :=
  ⟨hb, (hb.cell (World.block_lt_of_cell? w _ h0)).trans h0, (hb.cell (World.block_lt_of_cell? w _ h1)).trans h1, (hb.cell (World.block_lt_of_cell? w _ h2)).trans h2⟩
theorem keyS_size (t : ByteArray) (h : rt t = true) : (keyS t).size ≤ 32768 := by
  have h1 := keyB_length _ _ (Nat.le_refl t.data.toList.length) h
  have h2 := right_size h
  rw [list_size] at h1
  show (keyB t.data.toList).toArray.size ≤ _
  rw [List.size_toArray]; omega
theorem keyS_else (t : ByteArray) (x : Sh) (hx : readP t.data.toList = some x) (h : x.op ≠ 86) (h' : x.op ≠ 75) : keyS t = ⟨#[80]⟩ ++ t := by
  unfold keyS
  rw [keyB_else hx h h']
  apply ByteArray.ext; simp
theorem keyS_86 (t k0 k1 : ByteArray) (x : Sh) (hx : readP t.data.toList = some x) (h : x.op = 86) (h0 : k0.data.toList = nth x.kids 0) (h1 : k1.data.toList = nth x.kids 1) : keyS t = ⟨#[87]⟩ ++ keyS k0 ++ keyS k1 := by
  unfold keyS
  rw [keyB_86 hx h, h0, h1]
  apply ByteArray.ext; simp
theorem keyS_75 (t k0 k1 : ByteArray) (x : Sh) (hx : readP t.data.toList = some x) (h : x.op = 75) (h0 : k0.data.toList = nth x.kids 0) (h1 : k1.data.toList = nth x.kids 1) : keyS t = ⟨#[76]⟩ ++ keyS k0 ++ k1 := by
  unfold keyS
  rw [keyB_75 hx h, h0, ← h1]
  apply ByteArray.ext; simp
set_option maxRecDepth 100000 in
set_option maxHeartbeats 2000000 in
theorem key_else (t : ByteArray) (w : World) (x : Sh) (hx : readP t.data.toList = some x) (h : x.op ≠ 86) (h' : x.op ≠ 75) : Calls Tryz.prog 165 #[.string t] w fun e w' => e = .returned (.string (keyS t)) ∧ Below w.heap.size w w' := by
  obtain ⟨l', hl'⟩ := read_head hx
  obtain ⟨h0, hc0⟩ := byte_at t 0 x.op l' hl'
  have h0i : (0 : Int) < (t.size : Int) := by omega
  have hs : t.size ≤ 16384 := by rw [← list_size]; exact (read_parse hx).2
  have c1 := cat_any ⟨#[80]⟩ t (by rw [size1]; omega)
  rw [keyS_else t x hx h h']
  obtain ⟨oz, hoz⟩ : ∃ oz : Int, (x.op.toNat : Int) = oz := ⟨_, rfl⟩
  have ne : ∀ k : UInt8, x.op ≠ k → (x.op.toNat : Int) ≠ (k.toNat : Int) := fun k h h' => h (UInt8.toNat_inj.mp (by omega))
  have b1 : (oz != 86) = true := by rw [bne_iff_ne, ← hoz]; exact ne 86 h
  have b2 : (oz != 75) = true := by rw [bne_iff_ne, ← hoz]; exact ne 75 h'
  clear ne h h' hx hl'
  go_enter Tryz.func165, Tryz.ntmps165
  go_wp2
  go_ret
  exact ⟨rfl, Below.refl _ _⟩
end Go.Proofs.YtbdimlppnhcicaaGreatDoor
/- term: key of a pair of kinds. -/
namespace Go.Proofs.YtbdimlppnhcicaaGreatDoor
set_option linter.unusedVariables false
open Go.RowKit
/-- two parts in their own row -/
theorem two_kids {B : Nat} {kv : Value} {ks : List (List UInt8)} {w : World} (h : KidsAt B kv ks w) (h2 : ks.length = 2) :
    ∃ (k0 k1 : ByteArray) (g cap : Nat), k0.data.toList = nth ks 0 ∧ k1.data.toList = nth ks 1 ∧ kv = .slice (some ⟨g, 0, none⟩) 2 cap ∧ w.cell? ⟨g, 0, none⟩ = some (.string k0) ∧ w.cell? ⟨g, 1, none⟩ = some (.string k1) := by
  obtain ⟨vs, hvs, hown⟩ := h
  have hl : vs.length = 2 := by rw [← h2, ← hvs, List.length_map]
  obtain ⟨k0, k1, rfl⟩ := len_two hl
  obtain ⟨g, cap, e1, _, e3⟩ := own_cells hown (by omega)
  subst hvs
  exact ⟨k0, k1, g, cap, rfl, rfl, e1, e3 0 _ rfl, e3 1 _ rfl⟩
set_option maxRecDepth 100000 in
set_option maxHeartbeats 4000000 in
theorem key_86 (t : ByteArray) (w : World) (x : Sh) (hx : readP t.data.toList = some x) (h : x.op = 86) (hL : LibOk w)
    (ih : ∀ (k : ByteArray) (W : World), k.size < t.size → rt k = true → LibOk W → Calls Tryz.prog 165 #[.string k] W fun e w' => e = .returned (.string (keyS k)) ∧ Below W.heap.size W w') :
    Calls Tryz.prog 165 #[.string t] w fun e w' => e = .returned (.string (keyS t)) ∧ Below w.heap.size w w' := by
  obtain ⟨l', hl'⟩ := read_head hx
  obtain ⟨h0, hc0⟩ := byte_at t 0 x.op l' hl'
  have h0i : (0 : Int) < (t.size : Int) := by omega
  have hs : t.size ≤ 16384 := by rw [← list_size]; exact (read_parse hx).2
  have HX := Lib.hid hx
  have HOP := Lib.hid h
  have HL := Lib.hid hL
  have hz : (x.op.toNat : Int) = 86 := by rw [h]; rfl
  have h2 := read_arity hx 2 (by rw [h]; rfl)
  have HO := Lib.hid (open_any t w (by unfold maxLen; omega) hL)
  rw [hx] at HO
  have IH := Lib.hid ih
  clear hx h hL ih hl'
  go_enter Tryz.func165, Tryz.ntmps165
  go_upto_region 4 with (go_at_call 120; (with_reducible refine Calls.mono HO.out ?_); rintro e w1 ⟨hb, _, hyes⟩; obtain ⟨u, ko, km, kc, rfl, _, hK⟩ := hyes x rfl; have B1 := Lib.hid hb; have K1 := Lib.hid hK; clear hb hyes hK)
  obtain ⟨k0, k1, g, cap', e0, e1, ev, c0, c1⟩ := two_kids K1.out h2
  cases ev
  have B2 : Hid (Below w.heap.size w (w1.alloc (.cells #[.int .u8 86, .int .i64 x.n, .string u, .slice (some ⟨g, 0, none⟩) 2 kc] 192))) := B1.out.alloc B1.out.size _
  have CX : Hid ((w1.alloc (.cells #[.int .u8 86, .int .i64 x.n, .string u, .slice (some ⟨g, 0, none⟩) 2 kc] 192)).heap[w1.heap.size]? = some (.cells #[.int .u8 86, .int .i64 x.n, .string u, .slice (some ⟨g, 0, none⟩) 2 kc] 192 (0, 0))) := heap_alloc_at w1 _
  have d0 := cell_later (below_new' w1 (.cells #[.int .u8 86, .int .i64 x.n, .string u, .slice (some ⟨g, 0, none⟩) 2 kc] 192)) c0
  have d1 := cell_later (below_new' w1 (.cells #[.int .u8 86, .int .i64 x.n, .string u, .slice (some ⟨g, 0, none⟩) 2 kc] 192)) c1
  generalize w1.alloc (.cells #[.int .u8 86, .int .i64 x.n, .string u, .slice (some ⟨g, 0, none⟩) 2 kc] 192) = w2 at B2 CX d0 d1 ⊢
  obtain ⟨xb, hxb⟩ : ∃ xb, w1.heap.size = xb := ⟨_, rfl⟩
  rw [hxb] at CX ⊢
  clear hxb c0 c1 K1
  have x_0 : w2.cell? ⟨xb, 0, none⟩ = some (.int .u8 86) := by simp [World.cell?, CX.out]
  have x_3 : w2.cell? ⟨xb, 3, none⟩ = some (.slice (some ⟨g, 0, none⟩) 2 kc) := by simp [World.cell?, CX.out]
  have hk := read_kids HX.out
  have r0 := hk _ (nth_mem (i := 0) (by omega))
  have r1 := hk _ (nth_mem (i := 1) (by omega))
  rw [← e0, list_size] at r0
  rw [← e1, list_size] at r1
  rw [list_size] at r0 r1
  have hz0 := keyS_size k0 r0.1
  have hz1 := keyS_size k1 r1.1
  have HK : Hid (keyS t = ⟨#[87]⟩ ++ keyS k0 ++ keyS k1) := keyS_86 t k0 k1 x HX.out HOP.out e0 e1
  have HL2 := Lib.hid (HL.out.below B2.out)
  have HC0 : Hid (∀ W, Below w2.heap.size w2 W → Calls Tryz.prog 165 #[.string k0] W fun e w' => e = .returned (.string (keyS k0)) ∧ Below W.heap.size W w') := fun W hW => IH.out k0 W r0.2 r0.1 (HL2.out.below hW)
  have HC1 : Hid (∀ W, Below w2.heap.size w2 W → Calls Tryz.prog 165 #[.string k1] W fun e w' => e = .returned (.string (keyS k1)) ∧ Below W.heap.size W w') := fun W hW => IH.out k1 W r1.2 r1.1 (HL2.out.below hW)
  generalize keyS k0 = s0 at HC0 HK hz0
  generalize keyS k1 = s1 at HC1 HK hz1
  have a1 := cat_any ⟨#[87]⟩ s0 (by rw [size1]; omega)
  have a2 := cat_any (⟨#[87]⟩ ++ s0) s1 (by rw [ByteArray.size_append, size1]; omega)
  clear hz0 hz1 hk r0 r1 e0 e1 IH HX HOP h2
  go_wp2_with fail
  have BW := Below.refl w2.heap.size w2
  go_region_held3 (fun w' => Below w2.heap.size w2 w' ∧ w'.cell? ⟨xb, 3, none⟩ = some (.slice (some ⟨g, 0, none⟩) 2 kc) ∧ w'.cell? ⟨g, 0, none⟩ = some (.string k0) ∧ w'.cell? ⟨g, 1, none⟩ = some (.string k1))
    ((go_split_ands; with_reducible exact keep3 (by (first | (with_reducible assumption) | (repeat' (first | (with_reducible exact Below.refl _ _) | (with_reducible assumption) | (with_reducible refine Below.drew ?_) | (with_reducible refine below_drewN ?_ _) | (refine Below.trans ?_ (Below.mono (by assumption) ?_)) | go_size)))) (by with_reducible assumption) (by with_reducible assumption) (by with_reducible assumption)))
    ((first
      | (go_at_call 165; go_split_ands; (with_reducible refine Calls.mono (HC0.out _ (by with_reducible assumption)) ?_); rintro e w6 ⟨rfl, hb6⟩; have BX : Below w2.heap.size w2 w6 := lt2 (by with_reducible assumption) hb6)
      | (go_at_call 165; go_split_ands; (with_reducible refine Calls.mono (HC1.out _ (by with_reducible assumption)) ?_); rintro e w7 ⟨rfl, hb7⟩; have BY : Below w2.heap.size w2 w7 := lt2 (by with_reducible assumption) hb7)))
  all_goals go_wp2_with fail
  all_goals go_ret
  exact ⟨by rw [HK.out]; rfl, B2.out.trans (Below.mono (by assumption) B2.out.size)⟩
set_option maxRecDepth 100000 in
set_option maxHeartbeats 4000000 in
theorem key_75 (t : ByteArray) (w : World) (x : Sh) (hx : readP t.data.toList = some x) (h : x.op = 75) (hL : LibOk w)
    (ih : ∀ (k : ByteArray) (W : World), k.size < t.size → rt k = true → LibOk W → Calls Tryz.prog 165 #[.string k] W fun e w' => e = .returned (.string (keyS k)) ∧ Below W.heap.size W w') :
    Calls Tryz.prog 165 #[.string t] w fun e w' => e = .returned (.string (keyS t)) ∧ Below w.heap.size w w' := by
  obtain ⟨l', hl'⟩ := read_head hx
  obtain ⟨h0, hc0⟩ := byte_at t 0 x.op l' hl'
  have h0i : (0 : Int) < (t.size : Int) := by omega
  have hs : t.size ≤ 16384 := by rw [← list_size]; exact (read_parse hx).2
  have HX := Lib.hid hx
  have HOP := Lib.hid h
  have HL := Lib.hid hL
  have hz : (x.op.toNat : Int) = 75 := by rw [h]; rfl
  have h2 := read_arity hx 2 (by rw [h]; rfl)
  have HO := Lib.hid (open_any t w (by unfold maxLen; omega) hL)
  rw [hx] at HO
  have IH := Lib.hid ih
  clear hx h hL ih hl'
  go_enter Tryz.func165, Tryz.ntmps165
  go_upto_region 4 with (go_at_call 120; (with_reducible refine Calls.mono HO.out ?_); rintro e w1 ⟨hb, _, hyes⟩; obtain ⟨u, ko, km, kc, rfl, _, hK⟩ := hyes x rfl; have B1 := Lib.hid hb; have K1 := Lib.hid hK; clear hb hyes hK)
  obtain ⟨k0, k1, g, cap', e0, e1, ev, c0, c1⟩ := two_kids K1.out h2
  cases ev
  have B2 : Hid (Below w.heap.size w (w1.alloc (.cells #[.int .u8 75, .int .i64 x.n, .string u, .slice (some ⟨g, 0, none⟩) 2 kc] 192))) := B1.out.alloc B1.out.size _
  have CX : Hid ((w1.alloc (.cells #[.int .u8 75, .int .i64 x.n, .string u, .slice (some ⟨g, 0, none⟩) 2 kc] 192)).heap[w1.heap.size]? = some (.cells #[.int .u8 75, .int .i64 x.n, .string u, .slice (some ⟨g, 0, none⟩) 2 kc] 192 (0, 0))) := heap_alloc_at w1 _
  have d0 := cell_later (below_new' w1 (.cells #[.int .u8 75, .int .i64 x.n, .string u, .slice (some ⟨g, 0, none⟩) 2 kc] 192)) c0
  have d1 := cell_later (below_new' w1 (.cells #[.int .u8 75, .int .i64 x.n, .string u, .slice (some ⟨g, 0, none⟩) 2 kc] 192)) c1
  generalize w1.alloc (.cells #[.int .u8 75, .int .i64 x.n, .string u, .slice (some ⟨g, 0, none⟩) 2 kc] 192) = w2 at B2 CX d0 d1 ⊢
  obtain ⟨xb, hxb⟩ : ∃ xb, w1.heap.size = xb := ⟨_, rfl⟩
  rw [hxb] at CX ⊢
  clear hxb c0 c1 K1
  have x_0 : w2.cell? ⟨xb, 0, none⟩ = some (.int .u8 75) := by simp [World.cell?, CX.out]
  have x_3 : w2.cell? ⟨xb, 3, none⟩ = some (.slice (some ⟨g, 0, none⟩) 2 kc) := by simp [World.cell?, CX.out]
  have hk := read_kids HX.out
  have r0 := hk _ (nth_mem (i := 0) (by omega))
  have r1 := hk _ (nth_mem (i := 1) (by omega))
  rw [← e0, list_size] at r0
  rw [← e1, list_size] at r1
  rw [list_size] at r0 r1
  have hz0 := keyS_size k0 r0.1
  have hz1 := right_size r1.1
  have HK : Hid (keyS t = ⟨#[76]⟩ ++ keyS k0 ++ k1) := keyS_75 t k0 k1 x HX.out HOP.out e0 e1
  have HL2 := Lib.hid (HL.out.below B2.out)
  have HC0 : Hid (∀ W, Below w2.heap.size w2 W → Calls Tryz.prog 165 #[.string k0] W fun e w' => e = .returned (.string (keyS k0)) ∧ Below W.heap.size W w') := fun W hW => IH.out k0 W r0.2 r0.1 (HL2.out.below hW)
  generalize keyS k0 = s0 at HC0 HK hz0
  have a1 := cat_any ⟨#[76]⟩ s0 (by rw [size1]; omega)
  have a2 := cat_any (⟨#[76]⟩ ++ s0) k1 (by rw [ByteArray.size_append, size1]; omega)
  clear hz0 hz1 hk r0 r1 e0 e1 IH HX HOP h2
  go_wp2_with fail
  have BW := Below.refl w2.heap.size w2
  go_region_held3 (fun w' => Below w2.heap.size w2 w' ∧ w'.cell? ⟨xb, 3, none⟩ = some (.slice (some ⟨g, 0, none⟩) 2 kc) ∧ w'.cell? ⟨g, 0, none⟩ = some (.string k0) ∧ w'.cell? ⟨g, 1, none⟩ = some (.string k1))
    ((go_split_ands; with_reducible exact keep3 (by (first | (with_reducible assumption) | (repeat' (first | (with_reducible exact Below.refl _ _) | (with_reducible assumption) | (with_reducible refine Below.drew ?_) | (with_reducible refine below_drewN ?_ _) | (refine Below.trans ?_ (Below.mono (by assumption) ?_)) | go_size)))) (by with_reducible assumption) (by with_reducible assumption) (by with_reducible assumption)))
    ((go_at_call 165; go_split_ands; (with_reducible refine Calls.mono (HC0.out _ (by with_reducible assumption)) ?_); rintro e w6 ⟨rfl, hb6⟩; have BX : Below w2.heap.size w2 w6 := lt2 (by with_reducible assumption) hb6))
  all_goals go_wp2_with fail
  all_goals go_ret
  exact ⟨by rw [HK.out]; rfl, B2.out.trans (Below.mono (by assumption) B2.out.size)⟩
theorem key_any : ∀ (n : Nat) (t : ByteArray) (w : World), t.size ≤ n → rt t = true → LibOk w → Calls Tryz.prog 165 #[.string t] w fun e w' => e = .returned (.string (keyS t)) ∧ Below w.heap.size w w' := by
  intro n
  induction n with
  | zero =>
    intro t w hn hr hL
    obtain ⟨x, hx⟩ := right_read hr
    obtain ⟨l', e⟩ := read_head hx
    have := congrArg List.length e
    rw [list_size, List.length_cons] at this; omega
  | succ n ih =>
    intro t w hn hr hL
    obtain ⟨x, hx⟩ := right_read hr
    by_cases h86 : x.op = 86
    · exact key_86 t w x hx h86 hL (fun k W hk hr hl => ih k W (by omega) hr hl)
    · by_cases h75 : x.op = 75
      · exact key_75 t w x hx h75 hL (fun k W hk hr hl => ih k W (by omega) hr hl)
      · exact key_else t w x hx h86 h75
/-- what Pub makes -/
def pubV (t : ByteArray) : Value := if rt t then wholeV (keyS t) else .tuple #[.string ⟨#[]⟩, .int .i64 10]
set_option maxRecDepth 100000 in
set_option maxHeartbeats 2000000 in
theorem pub_any (t : ByteArray) (w : World) (hm : t.size ≤ maxLen) (hL : LibOk w) : Calls Tryz.prog 119 #[.string t] w fun e w' => e = .returned (pubV t) ∧ Below w.heap.size w w' := by
  have HR := Lib.hid (right_any t w hm hL)
  have HL := Lib.hid hL
  unfold pubV rt
  cases hr : rightB t.data.toList with
  | false =>
    rw [hr] at HR
    clear hr hL
    go_enter Tryz.func119, Tryz.ntmps119
    go_wp2_with (go_at_call 66; (with_reducible refine Calls.mono HR.out ?_); rintro e w1 ⟨rfl, hb⟩; have B1 := Lib.hid hb; clear hb)
    go_ret2
    exact ⟨rfl, B1.out⟩
  | true =>
    have HK : Hid (∀ W, LibOk W → Calls Tryz.prog 165 #[.string t] W fun e w' => e = .returned (.string (keyS t)) ∧ Below W.heap.size W w') := fun W hW => key_any t.size t W (Nat.le_refl _) hr hW
    have hz : (keyS t).size ≤ maxLen := Nat.le_trans (keyS_size t hr) (by unfold maxLen; omega)
    have HW : Hid (∀ W, LibOk W → Calls Tryz.prog 162 #[.string (keyS t)] W fun e w' => e = .returned (wholeV (keyS t)) ∧ Below W.heap.size W w') := fun W hW => wholeV_any (keyS t) W hz hW
    rw [hr] at HR
    generalize keyS t = kt at HK HW ⊢
    rw [if_pos rfl]
    obtain ⟨s, n, hs⟩ : ∃ s n, wholeV kt = .tuple #[.string s, .int .i64 n] := by unfold wholeV; split <;> exact ⟨_, _, rfl⟩
    rw [hs] at HW ⊢
    clear hr hL hz hs
    go_enter Tryz.func119, Tryz.ntmps119
    go_wp2_with (first
      | (go_at_call 66; (with_reducible refine Calls.mono HR.out ?_); rintro e w1 ⟨rfl, hb⟩; have B1 := Lib.hid hb; have HL1 := Lib.hid (HL.out.below hb); clear hb)
      | (go_at_call 165; (with_reducible refine Calls.mono (HK.out _ HL1.out) ?_); rintro e w2 ⟨rfl, hb⟩; have B2 : Hid (Below w.heap.size w w2) := B1.out.trans (hb.mono B1.out.size); have HL2 := Lib.hid (HL.out.below B2.out); clear hb)
      | (go_at_call 162; (with_reducible refine Calls.mono (HW.out _ HL2.out) ?_); rintro e w3 ⟨rfl, hb⟩; have B3 : Hid (Below w.heap.size w w3) := B2.out.trans (hb.mono B2.out.size); clear hb))
    go_ret2
    exact ⟨rfl, B3.out⟩
end Go.Proofs.YtbdimlppnhcicaaGreatDoor
