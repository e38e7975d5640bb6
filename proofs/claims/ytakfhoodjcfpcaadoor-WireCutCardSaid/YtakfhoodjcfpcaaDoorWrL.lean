/- wire: Size, Lent, Same -/
import Derived.Test.YtakfhoodjcfpcaaDoorWrK
import Derived.Deep.CutRange
import Derived.Deep.CutBlock
import Derived.Laws.CopyOwn
import Derived.Deep.QuietTactic
import Derived.IntWalk
namespace Go.Proofs.YtakfhoodjcfpcaaDoor.T
set_option linter.unusedVariables false
set_option maxRecDepth 100000
open Go.RowKit Tlv Wire
/-! wire: Size, Lent, Same -/
/-- how much records hold, as it is counted -/
def cap4 (z : Int) : Int := min z 4000
def cap41 (z : Int) : Int := min z 4001
def sizeV : Int → List Rec → Int
  | n, [] => n
  | n, r :: L => if 4000 < n then n else sizeV (n + 1 + cap4 (r.body.length : Int)) L
def sizeT : Int → List ByteArray → Int
  | n, [] => n
  | n, t :: L => if 4000 < n then n else sizeT (n + 1 + cap4 (t.size : Int)) L
theorem cap4_range (z : Int) (h : 0 ≤ z) : 0 ≤ cap4 z ∧ cap4 z ≤ 4000 ∧ (cap4 z < 4000 → cap4 z = z) := by unfold cap4; omega
theorem cap41_range (z : Int) (h : 0 ≤ z) : 0 ≤ cap41 z ∧ cap41 z ≤ 4001 ∧ (cap41 z ≤ 4000 → cap41 z = z) := by unfold cap41; omega
theorem sizeV_range : ∀ (L : List Rec) (n : Int), 0 ≤ n → n ≤ 8001 → n ≤ sizeV n L ∧ sizeV n L ≤ 8001
  | [], n, h, h2 => ⟨Int.le_refl _, h2⟩
  | r :: L, n, h, h2 => by
    rw [sizeV]
    split
    · exact ⟨Int.le_refl _, h2⟩
    · obtain ⟨a, b, _⟩ := cap4_range (r.body.length : Int) (by omega)
      obtain ⟨c, d⟩ := sizeV_range L (n + 1 + cap4 (r.body.length : Int)) (by omega) (by omega)
      exact ⟨by omega, d⟩
theorem sizeV_small : ∀ (L : List Rec) (n : Int), 0 ≤ n → sizeV n L ≤ 4000 → n + (L.length : Int) + (bodies L : Int) ≤ sizeV n L
  | [], n, h, _ => by simp [sizeV, bodies]
  | r :: L, n, h, h2 => by
    rw [sizeV] at h2 ⊢
    split at h2
    · omega
    · rename_i hn
      rw [if_neg hn]
      obtain ⟨a, b, c⟩ := cap4_range (r.body.length : Int) (by omega)
      have hr := sizeV_range L (n + 1 + cap4 (r.body.length : Int)) (by omega) (by omega)
      have h3 := sizeV_small L (n + 1 + cap4 (r.body.length : Int)) (by omega) h2
      have h4 := c (by omega)
      have e2 : bodies (r :: L) = r.body.length + bodies L := by simp [bodies]
      rw [List.length_cons]
      omega
theorem sizeT_range : ∀ (L : List ByteArray) (n : Int), 0 ≤ n → n ≤ 30000 → n ≤ sizeT n L ∧ sizeT n L ≤ 30000
  | [], n, h, h2 => ⟨Int.le_refl _, h2⟩
  | r :: L, n, h, h2 => by
    rw [sizeT]
    split
    · exact ⟨Int.le_refl _, h2⟩
    · obtain ⟨a, b, _⟩ := cap4_range (r.size : Int) (by omega)
      obtain ⟨c, d⟩ := sizeT_range L (n + 1 + cap4 (r.size : Int)) (by omega) (by omega)
      exact ⟨by omega, d⟩
theorem sizeT_small : ∀ (L : List ByteArray) (n : Int), 0 ≤ n → sizeT n L ≤ 4000 → n + (L.length : Int) + (tsum L : Int) ≤ sizeT n L
  | [], n, h, _ => by simp [sizeT, tsum]
  | r :: L, n, h, h2 => by
    rw [sizeT] at h2 ⊢
    split at h2
    · omega
    · rename_i hn
      rw [if_neg hn]
      obtain ⟨a, b, c⟩ := cap4_range (r.size : Int) (by omega)
      have hr := sizeT_range L (n + 1 + cap4 (r.size : Int)) (by omega) (by omega)
      have h3 := sizeT_small L (n + 1 + cap4 (r.size : Int)) (by omega) h2
      have h4 := c (by omega)
      have e2 : tsum (r :: L) = r.size + tsum L := by simp [tsum]
      rw [List.length_cons]
      omega
def sizeM (m : Wire.Msg) : Int := sizeT (cap41 (m.chan.size : Int) + cap41 (m.text.size : Int) + cap41 (m.nums.length : Int) + sizeV 0 m.more) m.terms
/-- a message that is looked at -/
structure Small (m : Wire.Msg) : Prop where
  c : m.chan.size ≤ 4000
  x : m.text.size ≤ 4000
  n : m.nums.length ≤ 4000
  t : m.terms.length + tsum m.terms ≤ 4000
  r : m.more.length + bodies m.more ≤ 4000
theorem small_of {m : Wire.Msg} (h : ¬ 4000 < sizeM m) : Small m := by
  unfold sizeM at h
  obtain ⟨a1, a2, a3⟩ := cap41_range (m.chan.size : Int) (by omega)
  obtain ⟨b1, b2, b3⟩ := cap41_range (m.text.size : Int) (by omega)
  obtain ⟨c1, c2, c3⟩ := cap41_range (m.nums.length : Int) (by omega)
  obtain ⟨d1, d2⟩ := sizeV_range m.more 0 (by omega) (by omega)
  have h1 := sizeT_range m.terms _ (show 0 ≤ cap41 (m.chan.size : Int) + cap41 (m.text.size : Int) + cap41 (m.nums.length : Int) + sizeV 0 m.more by omega) (by omega)
  have h2 := sizeT_small m.terms _ (show 0 ≤ cap41 (m.chan.size : Int) + cap41 (m.text.size : Int) + cap41 (m.nums.length : Int) + sizeV 0 m.more by omega) (by omega)
  have h3 := sizeV_small m.more 0 (by omega) (by omega)
  have e1 := a3 (by omega)
  have e2 := b3 (by omega)
  have e3 := c3 (by omega)
  exact ⟨by omega, by omega, by omega, by omega, by omega⟩
theorem tsum_le {L : List ByteArray} {t : ByteArray} (h : t ∈ L) : t.size ≤ tsum L := by
  induction L with
  | nil => cases h
  | cons x L ih =>
    have e2 : tsum (x :: L) = x.size + tsum L := by simp [tsum]
    rcases List.mem_cons.1 h with rfl | h
    · omega
    · have := ih h; omega
theorem Small.mb {m : Wire.Msg} (h : Small m) (ht : ∀ r ∈ m.more, r.t < 18446744073709551616) : MB m :=
  ⟨by have := h.c; omega, by have := h.x; omega, by have := h.n; omega, by have := h.t; omega, fun t hm => by have := tsum_le hm; have := h.t; omega, by have := h.r; omega, ht, fun r hr => by have := body_le hr; have := h.r; omega⟩
set_option maxHeartbeats 2000000 in
theorem sizer (a : Option Addr) (cp : Nat) (L : List Rec) (w : World) (hm : L.length ≤ maxLen) (hr : Recs w a L) : Calls Tryd.prog 19 #[.slice a L.length cp, .int .i64 4000] w fun e w' => e = .returned (.int .i64 (sizeV 0 L)) ∧ w' = w := by
  have HR := Lib.hid hr
  clear hr
  unfold maxLen at hm
  obtain ⟨S, hS⟩ : ∃ S, sizeV 0 L = S := ⟨_, rfl⟩
  have HS : Hid (sizeV 0 (L.drop 0) = S) := hS
  rw [hS]
  clear hS
  go_enter Tryd.func19, Tryd.ntmps19
  go_wp2
  go_loopw [5, 6] (fun nv iv wr => ∃ (k : Nat) (y : Int), k ≤ L.length ∧ iv = .int .i64 k ∧ nv = .int .i64 y ∧ Hid (sizeV y (L.drop k) = S) ∧ 0 ≤ y ∧ y ≤ 8001 ∧ wr = w) (fun _ iv _ => L.length - (intOf iv).toNat)
  case atStart => exact ⟨0, 0, Nat.zero_le _, rfl, rfl, HS.out, by omega, by omega, rfl⟩
  case round =>
    obtain ⟨k, y, hk, rfl, rfl, hy, hy0, hy1, rfl⟩ := hrel
    by_cases hlt : k < L.length
    · obtain ⟨r, hr⟩ : ∃ r, L[k]? = some r := ⟨_, List.getElem?_eq_getElem hlt⟩
      have hst : Hid (sizeV y (L.drop k) = if 4000 < y then y else sizeV (y + 1 + cap4 (r.body.length : Int)) (L.drop (k + 1))) := by
        show _ = _
        rw [List.drop_eq_getElem_cons hlt]
        rw [List.getElem?_eq_getElem hlt] at hr
        rw [Option.some.inj hr]
        rfl
      by_cases h3 : y ≤ 4000
      · have hne : L ≠ [] := by intro h; rw [h] at hlt; simp at hlt
        obtain ⟨b, off, rfl, hrec⟩ := HR.out.resolve_left hne
        obtain ⟨ai, ci, c0, c1, cs, cl, cm⟩ := hrec k r hr
        obtain ⟨z, hz⟩ : ∃ z : Int, (r.body.length : Int) = z := ⟨_, rfl⟩
        have hz0 : 0 ≤ z := by omega
        have hnext : Hid (sizeV (y + 1 + min z 4000) (L.drop (k + 1)) = S) := by
          show _ = _
          rw [← hz, ← hy.out, hst.out, if_neg (by omega)]; rfl
        have hq0 : Hid (0 ≤ y + 1 + min z 4000) := by show _ ≤ _; omega
        have hq1 : Hid (y + 1 + min z 4000 ≤ 8001) := by show _ ≤ _; omega
        have hkl : (k : Int) < (L.length : Int) := by omega
        clear hst hr hrec cs cl hy
        go_wp2_with fail
        go_roundw
        case rel => exact ⟨k + 1, _, by omega, by go_num, rfl, hnext, hq0.out, hq1.out, trivial⟩
        case measure => simp [intOf]; omega
      · have hkl : (k : Int) < (L.length : Int) := by omega
        have HF : Hid (y = S) := by show _ = _; rw [← hy.out, hst.out, if_pos (by omega)]
        clear hst hy hr
        go_wp2_with fail
        go_ret
        exact ⟨by have h := HF.out; subst h; rfl, rfl⟩
    · obtain rfl : k = L.length := by omega
      have HF : Hid (y = S) := by have := hy.out; rw [List.drop_length] at this; exact this
      clear hy
      go_wp2_with fail
      go_ret
      exact ⟨by have h := HF.out; subst h; rfl, rfl⟩
set_option maxHeartbeats 4000000 in
theorem size_m (m : Wire.Msg) (na : Option Addr) (nc : Nat) (ta : Option Addr) (tc : Nat) (ra : Option Addr) (rc : Nat) (w : World) (h1 : m.chan.size ≤ maxLen) (h2 : m.text.size ≤ maxLen) (h3 : m.nums.length ≤ maxLen) (h4 : m.terms.length ≤ maxLen) (h5 : m.more.length ≤ maxLen) (h6 : ∀ t ∈ m.terms, t.size ≤ maxLen) (hA : MA w m na ta ra) :
    Calls Tryd.prog 8 #[.agg #[.int .u16 (m.kind : Int), .string m.chan, .slice na m.nums.length nc, .slice ta m.terms.length tc, .string m.text, .slice ra m.more.length rc], .int .i64 4000] w fun e w' => e = .returned (.int .i64 (sizeM m)) ∧ Below w.heap.size w w' := by
  obtain ⟨kind, chan, nums, terms, text, more⟩ := m
  dsimp only at *
  unfold maxLen at h1 h2 h3 h4
  have HA := Lib.hid (hA.later (below_new w (.cells #[.int .u16 (kind : Int), .string chan, .slice na nums.length nc, .slice ta terms.length tc, .string text, .slice ra more.length rc] 27)))
  have HMC : Hid (MC (w.alloc (.cells #[.int .u16 (kind : Int), .string chan, .slice na nums.length nc, .slice ta terms.length tc, .string text, .slice ra more.length rc] 27)) w.heap.size #[.int .u16 (kind : Int), .string chan, .slice na nums.length nc, .slice ta terms.length tc, .string text, .slice ra more.length rc]) := heap_alloc_at w _
  have HB0 := Lib.hid (below_new w (.cells #[.int .u16 (kind : Int), .string chan, .slice na nums.length nc, .slice ta terms.length tc, .string text, .slice ra more.length rc] 27))
  go_enter Tryd.func8, Tryd.ntmps8
  obtain ⟨x1, hx1⟩ : ∃ x : Int, (chan.size : Int) = x := ⟨_, rfl⟩
  obtain ⟨x2, hx2⟩ : ∃ x : Int, (text.size : Int) = x := ⟨_, rfl⟩
  obtain ⟨x3, hx3⟩ : ∃ x : Int, (nums.length : Int) = x := ⟨_, rfl⟩
  obtain ⟨S5, hS5⟩ : ∃ x : Int, sizeV 0 more = x := ⟨_, rfl⟩
  obtain ⟨SM, hSM⟩ : ∃ x : Int, sizeM ⟨kind, chan, nums, terms, text, more⟩ = x := ⟨_, rfl⟩
  have hr5 := sizeV_range more 0 (by omega) (by omega)
  have HSZ := Lib.hid (fun (W : World) (h : Recs W ra more) => sizer ra rc more W h5 h)
  rw [hS5] at hr5 HSZ
  have hm1 : 0 ≤ min x1 4001 ∧ min x1 4001 ≤ 4001 := by omega
  have hm2 : 0 ≤ min x2 4001 ∧ min x2 4001 ≤ 4001 := by omega
  have hm3 : 0 ≤ min x3 4001 ∧ min x3 4001 ≤ 4001 := by omega
  obtain ⟨y0, hy0⟩ : ∃ y0 : Int, min x1 4001 + min x2 4001 + min x3 4001 + S5 = y0 := ⟨_, rfl⟩
  have hyb : 0 ≤ y0 ∧ y0 ≤ 20004 := by omega
  have HST : Hid (sizeT y0 (terms.drop 0) = SM) := by
    show sizeT y0 terms = SM
    rw [← hSM, ← hy0, ← hS5, ← hx1, ← hx2, ← hx3]
    rfl
  rw [hSM]
  have q1 : IntKind.i64.wrap (min x1 4001 + min x2 4001) = min x1 4001 + min x2 4001 := IntWalk.i64_in _ (by omega)
  have q2 : IntKind.i64.wrap (min x1 4001 + min x2 4001 + min x3 4001) = min x1 4001 + min x2 4001 + min x3 4001 := IntWalk.i64_in _ (by omega)
  have q3 : IntKind.i64.wrap (min x1 4001 + min x2 4001 + min x3 4001 + S5) = y0 := by rw [← hy0]; exact IntWalk.i64_in _ (by omega)
  have HT : Hid (∀ t ∈ terms, t.size ≤ maxLen) := h6
  have HX1 := Lib.hid hx1; have HX2 := Lib.hid hx2; have HX3 := Lib.hid hx3
  clear hS5 hSM hm1 hm2 hm3 h6 hA hy0 h1 h2 h3
  go_upto_region 1 with fail
  generalize w.alloc (.cells #[.int .u16 (kind : Int), .string chan, .slice na nums.length nc, .slice ta terms.length tc, .string text, .slice ra more.length rc] 27) = w1 at HA HMC HB0
  obtain ⟨_, d1, d2, d3, d4, d5⟩ := HMC.out.cells
  have HQ := HSZ.out _ HA.out.more
  go_quiet ((go_at_call 19; exact Calls.quiet_of_same (HSZ.out _ HA.out.more)))
  have hbq : Below w1.heap.size w1 (w1.drewN nq) := below_drewN (Below.refl _ _) _
  have HA2 := Lib.hid (HA.out.later hbq)
  have HMC2 := Lib.hid (HMC.out.later hbq)
  have HB2 : Hid (Below w.heap.size w (w1.drewN nq)) := below_drewN HB0.out _
  clear hbq d1 d2 d3 d4 d5 HQ q1 q2 q3 hx1 hx2 hx3
  generalize w1.drewN nq = w2 at HA2 HMC2 HB2
  obtain ⟨_, d1, d2, d3, d4, d5⟩ := HMC2.out.cells
  go_wp2_with fail
  go_loopw [5, 6] (fun nv iv wr => ∃ (k : Nat) (y : Int), k ≤ terms.length ∧ iv = .int .i64 k ∧ nv = .int .i64 y ∧ Hid (sizeT y (terms.drop k) = SM) ∧ 0 ≤ y ∧ y ≤ 20004 ∧ wr = w2) (fun _ iv _ => terms.length - (intOf iv).toNat)
  case atStart => exact ⟨0, y0, Nat.zero_le _, rfl, rfl, HST.out, by omega, by omega, rfl⟩
  case round =>
    obtain ⟨k, y, hk, rfl, rfl, hy, hy0, hy1, rfl⟩ := hrel
    by_cases hlt : k < terms.length
    · obtain ⟨r, hr⟩ : ∃ r, terms[k]? = some r := ⟨_, List.getElem?_eq_getElem hlt⟩
      have hst : Hid (sizeT y (terms.drop k) = if 4000 < y then y else sizeT (y + 1 + cap4 (r.size : Int)) (terms.drop (k + 1))) := by
        show _ = _
        rw [List.drop_eq_getElem_cons hlt]
        rw [List.getElem?_eq_getElem hlt] at hr
        rw [Option.some.inj hr]
        rfl
      by_cases h3 : y ≤ 4000
      · have hne : terms ≠ [] := by intro h; rw [h] at hlt; simp at hlt
        obtain ⟨b, off, rfl, hrec⟩ := HA2.out.terms.resolve_left hne
        have c0 := hrec k r hr
        have hrs := HT.out r (List.mem_of_getElem? hr)
        unfold maxLen at hrs
        obtain ⟨z, hz⟩ : ∃ z : Int, (r.size : Int) = z := ⟨_, rfl⟩
        have hz0 : 0 ≤ z := by omega
        have hnext : Hid (sizeT (y + 1 + min z 4000) (terms.drop (k + 1)) = SM) := by
          show _ = _
          rw [← hz, ← hy.out, hst.out, if_neg (by omega)]; rfl
        have hq0 : Hid (0 ≤ y + 1 + min z 4000) := by show _ ≤ _; omega
        have hq1 : Hid (y + 1 + min z 4000 ≤ 20004) := by show _ ≤ _; omega
        have hkl : (k : Int) < (terms.length : Int) := by omega
        clear hst hr hrec hy
        go_wp2_with fail
        go_roundw
        case rel => exact ⟨k + 1, _, by omega, by go_num, rfl, hnext, hq0.out, hq1.out, trivial⟩
        case measure => simp [intOf]; omega
      · have hkl : (k : Int) < (terms.length : Int) := by omega
        have HF : Hid (y = SM) := by show _ = _; rw [← hy.out, hst.out, if_pos (by omega)]
        clear hst hy hr
        go_wp2_with fail
        go_ret
        exact ⟨by have h := HF.out; subst h; rfl, HB2.out⟩
    · obtain rfl : k = terms.length := by omega
      have HF : Hid (y = SM) := by have := hy.out; rw [List.drop_length] at this; exact this
      clear hy
      go_wp2_with fail
      go_ret
      exact ⟨by have h := HF.out; subst h; rfl, HB2.out⟩
/-! rows of one cell each, appended to nothing -/
theorem run_app_none {α : Type} (f : α → Value) (S E bytes : Nat) (i0 : TypeInfo) (z : Value) (hU : Tryd.prog.underlying S = some (.slice E)) (hi0 : Tryd.prog.info? E = some i0) (hz0 : i0.zero = some z) (hz1 : i0.size = 1) (hz2 : i0.bytes = bytes) (hzc : z.cells.size = 1) (hone : ∀ x, (f x).oneCell' = true) (hb : bytes ≤ 16)
    (a : Option Addr) (L : List α) (c : Nat) (w : World) (hL : L.length ≤ 1000000) (hs : L = [] ∨ ∃ b off, a = some ⟨b, off, none⟩ ∧ ∀ (k : Nat) (x : α), L[k]? = some x → w.cell? ⟨b, off + k, none⟩ = some (f x)) (ty : TypeId) :
    ∃ v' w', (Builtin.append_ #[S, S] ty #[.slice none 0 0, .slice a L.length c]).run Tryd.prog w = .ok v' w' ∧ w'.ownsRow w.heap.size E 1 v' L.length (L.map f) ∧ Below w.heap.size w w' := by
  cases a with
  | none =>
    have hl : L = [] := by
      rcases hs with h | ⟨_, _, h, _⟩
      · exact h
      · cases h
    subst hl
    refine ⟨.slice none 0 0, w, ?_, World.ownsRow_nil _ _ _ _, Below.refl _ _⟩
    simp [Builtin.append_, run_underlying hU, sizeOf, typeInfo, hi0, Builtin.lenOf, Builtin.firstCells]
  | some ad =>
    have hcells : ∀ j u, (L.map f)[j]? = some u → w.cell? (ad.add j) = some u := by
      intro j u hu
      rw [List.getElem?_map] at hu
      rcases hs with h | ⟨b, off, h, hk⟩
      · subst h; simp at hu
      · cases h
        cases hlj : L[j]? with
        | none => rw [hlj] at hu; cases hu
        | some d =>
          rw [hlj] at hu; cases hu
          rw [Addr.add_lit]; exact hk j d hlj
    obtain ⟨v', w', hrun, h2, h3, _, h5⟩ := run_append_own_at (P := Tryd.prog) w w.heap.size S ty E i0 z 1 bytes hU hi0 hz0 hz1 hz2 hzc (by omega) (.slice none 0 0) 0 [] (World.ownsRow_nil _ _ _ _) ad L.length c (L.map f) (by simp) hcells (by intro u hu; simp at hu; obtain ⟨d, _, rfl⟩ := hu; exact hone d) (by unfold maxLen; omega) (by rw [Nat.zero_add]; have := Nat.mul_le_mul hL hb; omega) (Nat.le_refl _)
    rw [Nat.zero_add, List.nil_append] at h2
    exact ⟨v', w', hrun, h2, ⟨h3.os, h3.tape, h3.output, h3.size, fun k hk => h3.block k hk (fun e => by cases e)⟩⟩
theorem wpList_app_run {ops : Array Oper} {rest : List Oper} {o : Oper} {a : Act} {w : World} {Q : Exit → Act → World → Prop} (hgd : o.guard = none) (s x : Operand) (S : TypeId)
    (ho : o.op = .call { callee := .builtin .append, args := #[s, x], argTypes := #[S, S] }) (v1 v2 : Value) (hsv : a.eval s = v1) (hx : a.eval x = v2) (R : Value → World → Prop) (hrun : ∀ ty, ∃ v' w', (Builtin.append_ #[S, S] ty #[v1, v2]).run Tryd.prog w = .ok v' w' ∧ R v' w')
    (h : ∀ v' w', R v' w' → wpList Tryd.prog ops Q rest (a.put o.dst v') w') : wpList Tryd.prog ops Q (o :: rest) a w :=
  wpList_plain hgd fun _ hK => by
    obtain ⟨v', w', hr, h2⟩ := hrun o.type
    unfold Oper.wp execOp
    simp only [ho, resolve, invoke, builtin, Sem.run_bind, Sem.run_pure, Result.andThen_ok, List.map_toArray, List.map_cons, List.map_nil, hsv, hx, hr]
    exact hK _ _ (h v' w' h2)
theorem app_ints (a : Option Addr) (L : List Int) (c : Nat) (w : World) (hL : L.length ≤ 1000000) (hs : Ints w a L) (ty : TypeId) : ∃ v' w', (Builtin.append_ #[23, 23] ty #[.slice none 0 0, .slice a L.length c]).run Tryd.prog w = .ok v' w' ∧ (OwnN w' w.heap.size v' L ∧ Below w.heap.size w w') := by
  obtain ⟨i0, hi0, hz0, hz1, hz2⟩ := info_parts Tryd.info2
  exact run_app_none (Value.int .i64) 23 2 8 i0 _ Tryd.underlying23 hi0 hz0 hz1 hz2 rfl (fun x => rfl) (by omega) a L c w hL hs ty
theorem app_strs (a : Option Addr) (L : List ByteArray) (c : Nat) (w : World) (hL : L.length ≤ 1000000) (hs : Strs w a L) (ty : TypeId) : ∃ v' w', (Builtin.append_ #[24, 24] ty #[.slice none 0 0, .slice a L.length c]).run Tryd.prog w = .ok v' w' ∧ (OwnT w' w.heap.size v' L ∧ Below w.heap.size w w') := by
  obtain ⟨i0, hi0, hz0, hz1, hz2⟩ := info_parts Tryd.info49
  exact run_app_none Value.string 24 49 16 i0 _ Tryd.underlying24 hi0 hz0 hz1 hz2 rfl (fun x => rfl) (by omega) a L c w hL hs ty
def LentM (m : Wire.Msg) (w : World) (e : Ending) (w' : World) : Prop := ∃ nv tv rv, e = .returned (.agg #[.int .u16 (m.kind : Int), .string m.chan, nv, tv, .string m.text, rv]) ∧ OwnM w' w.heap.size m nv tv rv ∧ Below w.heap.size w w'
set_option maxHeartbeats 4000000 in
theorem lent_m (m : Wire.Msg) (na : Option Addr) (nc : Nat) (ta : Option Addr) (tc : Nat) (ra : Option Addr) (rc : Nat) (w : World) (hS : Small m) (ht : ∀ r ∈ m.more, r.t < 18446744073709551616) (hA : MA w m na ta ra) :
    Calls Tryd.prog 12 #[.agg #[.int .u16 (m.kind : Int), .string m.chan, .slice na m.nums.length nc, .slice ta m.terms.length tc, .string m.text, .slice ra m.more.length rc]] w (LentM m w) := by
  obtain ⟨kind, chan, nums, terms, text, more⟩ := m
  obtain ⟨s1, s2, s3, s4, s5⟩ := hS
  unfold LentM
  dsimp only at *
  have HA := Lib.hid (hA.later (below_new w (.cells #[.int .u16 (kind : Int), .string chan, .slice na nums.length nc, .slice ta terms.length tc, .string text, .slice ra more.length rc] 27)))
  have HMC : Hid (MC (w.alloc (.cells #[.int .u16 (kind : Int), .string chan, .slice na nums.length nc, .slice ta terms.length tc, .string text, .slice ra more.length rc] 27)) w.heap.size #[.int .u16 (kind : Int), .string chan, .slice na nums.length nc, .slice ta terms.length tc, .string text, .slice ra more.length rc]) := heap_alloc_at w _
  have HB0 := Lib.hid (below_new w (.cells #[.int .u16 (kind : Int), .string chan, .slice na nums.length nc, .slice ta terms.length tc, .string text, .slice ra more.length rc] 27))
  have HRT : Hid (∀ r ∈ more, r.t < 18446744073709551616) := ht
  have HRB : Hid (∀ r ∈ more, r.body.length ≤ 4000) := fun r hr => by have := body_le hr; omega
  have hb2 := below_new (w.alloc (.cells #[.int .u16 (kind : Int), .string chan, .slice na nums.length nc, .slice ta terms.length tc, .string text, .slice ra more.length rc] 27)) (.cells #[.int .u16 0, .string ⟨#[]⟩, .slice none 0 0, .slice none 0 0, .string ⟨#[]⟩, .slice none 0 0] 27)
  have HA2 := Lib.hid (HA.out.later hb2)
  have HM2 := Lib.hid (HMC.out.later hb2)
  have HB2 := Lib.hid (HB0.out.trans (hb2.mono HB0.out.size))
  have hO2 := heap_alloc_at (w.alloc (.cells #[.int .u16 (kind : Int), .string chan, .slice na nums.length nc, .slice ta terms.length tc, .string text, .slice ra more.length rc] 27)) (.cells #[.int .u16 0, .string ⟨#[]⟩, .slice none 0 0, .slice none 0 0, .string ⟨#[]⟩, .slice none 0 0] 27)
  rw [World.size_alloc] at hO2
  have HO2 := Lib.hid hO2
  have HAW := Lib.hid hA
  clear ht hA hb2 hO2 HA HMC HB0
  go_enter Tryd.func12, Tryd.ntmps12
  go_upto_region 1 with fail
  obtain ⟨bb, hbb⟩ : ∃ bb, w.heap.size = bb := ⟨_, rfl⟩
  generalize (w.alloc (.cells #[.int .u16 (kind : Int), .string chan, .slice na nums.length nc, .slice ta terms.length tc, .string text, .slice ra more.length rc] 27)).alloc (.cells #[.int .u16 0, .string ⟨#[]⟩, .slice none 0 0, .slice none 0 0, .string ⟨#[]⟩, .slice none 0 0] 27) = w2 at HA2 HM2 HB2 HO2
  have HBB := Lib.hid hbb
  rw [hbb] at HM2 HO2 ⊢
  clear hbb
  have hz2 : bb + 1 < w2.heap.size := lt_of_heap HO2.out
  obtain ⟨_, _, d2, d3, _, d5⟩ := HM2.out.cells
  go_upto_region 5 with (first
    | (at_builtin; refine wpList_app_run rfl _ _ 23 rfl _ _ rfl rfl _ (app_ints na nums nc w2 (by omega) HA2.out.nums) ?_; rintro v1 w3 ⟨ho3, hb3⟩; obtain ⟨p1, k1, rfl⟩ := own_slice ho3; have HO3 := Lib.hid ho3; have HB3 := Lib.hid hb3; have HA3 := Lib.hid (HA2.out.later hb3); have hm3 := HM2.out.later hb3; obtain ⟨_, _, _, d33, _, _⟩ := hm3.cells; have HM3 := Lib.hid hm3; clear ho3 hb3 hm3)
    | (at_builtin; refine wpList_app_run rfl _ _ 24 rfl _ _ rfl rfl _ (app_strs ta terms tc w3 (by omega) HA3.out.terms) ?_; rintro v2 w4 ⟨ho4, hb4⟩; obtain ⟨p2, k2, rfl⟩ := own_slice ho4; have HO4 := Lib.hid ho4; have HB4 := Lib.hid hb4; have HA4 := Lib.hid (HA3.out.later hb4); have hm4 := HM3.out.later hb4; obtain ⟨_, _, d42, d43, _, d45⟩ := hm4.cells; have HM4 := Lib.hid hm4; clear ho4 hb4 hm4))
  have f42 : w4.frozen? ⟨bb, 2, none⟩ = false := frozen_of_row _ _ _ _ _ HM4.out
  have f43 : w4.frozen? ⟨bb, 3, none⟩ = false := frozen_of_row _ _ _ _ _ HM4.out
  clear d2 d3 d5 d33
  go_upto_region 7 with fail
  have hf5 : Fr (fun i => i = bb) w4 ((w4.setCell ⟨bb, 2, none⟩ (.slice p1 nums.length k1)).setCell ⟨bb, 3, none⟩ (.slice p2 terms.length k2)) := ((Fr.refl (fun i => i = bb) w4).set _ _ _ rfl).set _ _ _ rfl
  have hm5 : MC ((w4.setCell ⟨bb, 2, none⟩ (.slice p1 nums.length k1)).setCell ⟨bb, 3, none⟩ (.slice p2 terms.length k2)) bb #[.int .u16 (kind : Int), .string chan, Value.slice p1 nums.length k1, Value.slice p2 terms.length k2, .string text, .slice ra more.length rc] := by
    have h1 : (w4.setCell ⟨bb, 2, none⟩ (.slice p1 nums.length k1)).heap[bb]? = some (.cells #[.int .u16 (kind : Int), .string chan, Value.slice p1 nums.length k1, .slice ta terms.length tc, .string text, .slice ra more.length rc] 27 (0, 0)) := by rw [heap_setCell_same _ _ _ _ _ _ HM4.out]; rfl
    show (World.setCell _ _ _).heap[bb]? = _
    rw [heap_setCell_same _ _ _ _ _ _ h1]; rfl
  have hb25 := HB3.out.trans (HB4.out.mono HB3.out.size)
  have hbw5 : Below w.heap.size w ((w4.setCell ⟨bb, 2, none⟩ (.slice p1 nums.length k1)).setCell ⟨bb, 3, none⟩ (.slice p2 terms.length k2)) := ((HB2.out.trans (hb25.mono HB2.out.size)).setCell (by have := HBB.out; show _ ≤ bb; omega) _).setCell (by have := HBB.out; show _ ≤ bb; omega) _
  clear f42 f43 d42 d43 d45
  generalize (w4.setCell ⟨bb, 2, none⟩ (.slice p1 nums.length k1)).setCell ⟨bb, 3, none⟩ (.slice p2 terms.length k2) = w5 at hf5 hm5 hbw5
  have hz3 := HB3.out.size
  have hz4 := HB4.out.size
  have HN5 : Hid (OwnN w5 w2.heap.size (.slice p1 nums.length k1) nums) := own_fr (own_fr HO3.out (Fr.below (S := fun _ => False) HB4.out) (fun _ h => h.elim)) hf5 (fun k hk => by omega)
  have HT5 : Hid (OwnT w5 w3.heap.size (.slice p2 terms.length k2) terms) := own_fr HO4.out hf5 (fun k hk => by omega)
  have HO5 : Hid (w5.heap[bb + 1]? = some (.cells #[.int .u16 0, .string ⟨#[]⟩, .slice none 0 0, .slice none 0 0, .string ⟨#[]⟩, .slice none 0 0] 27 (0, 0))) := (hf5.block (bb + 1) (by omega) (by omega)).trans ((hb25.block (bb + 1) (by omega)).trans HO2.out)
  have HA5 := Lib.hid (HAW.out.later hbw5)
  have HBW5 := Lib.hid hbw5
  have HM5 := Lib.hid hm5
  have hz5 := hf5.size
  have HLT := lent_any ra rc more w5 (by omega) HRB.out HRT.out HA5.out.more
  unfold LentPost at HLT
  have HLT' := Lib.hid HLT
  obtain ⟨_, _, _, _, _, d55⟩ := hm5.cells
  clear HLT hf5 hm5 hbw5 hb25
  go_upto_region 8 with (go_at_call 22; (with_reducible refine Calls.mono HLT'.out ?_); rintro e w6 ⟨rv, rfl, hrv, hb6⟩; obtain ⟨a3, c3, rfl, hvr, hvm⟩ := hrv.recs; clear hvr hvm; have HRV := Lib.hid hrv; have HB6 := Lib.hid hb6; have hm6 := HM5.out.later hb6; obtain ⟨_, _, _, _, _, d65⟩ := hm6.cells; have f65 : w6.frozen? ⟨bb, 5, none⟩ = false := frozen_of_row _ _ _ _ _ hm6; have HM6 := Lib.hid hm6; clear hrv hb6 hm6)
  have hf7 : Fr (fun i => i = bb) w5 (w6.setCell ⟨bb, 5, none⟩ (.slice a3 more.length c3)) := (Fr.below HB6.out).set _ _ _ rfl
  have hm7 : (w6.setCell ⟨bb, 5, none⟩ (.slice a3 more.length c3)).heap[bb]? = some (.cells #[.int .u16 (kind : Int), .string chan, Value.slice p1 nums.length k1, Value.slice p2 terms.length k2, .string text, Value.slice a3 more.length c3] 27 (0, 0)) := by rw [heap_setCell_same _ _ _ _ _ _ HM6.out]; rfl
  have hrv7 : OwnRecs (w6.setCell ⟨bb, 5, none⟩ (.slice a3 more.length c3)) w5.heap.size (.slice a3 more.length c3) more := HRV.out.keep (fun g hg _ => Below.heap_setCell _ _ _ _ (fun e => by subst e; omega))
  have hbw7 : Below w.heap.size w (w6.setCell ⟨bb, 5, none⟩ (.slice a3 more.length c3)) := (HBW5.out.trans (HB6.out.mono HBW5.out.size)).setCell (by have := HBB.out; show _ ≤ bb; omega) _
  clear d55 d65 f65
  generalize w6.setCell ⟨bb, 5, none⟩ (.slice a3 more.length c3) = w7 at hf7 hm7 hrv7 hbw7
  have HM7 := Lib.hid hm7
  have HN7 : Hid (OwnN w7 w2.heap.size (.slice p1 nums.length k1) nums) := own_fr HN5.out hf7 (fun k hk => by omega)
  have HT7 : Hid (OwnT w7 w3.heap.size (.slice p2 terms.length k2) terms) := own_fr HT5.out hf7 (fun k hk => by omega)
  have HO7 : Hid (w7.heap[bb + 1]? = some (.cells #[.int .u16 0, .string ⟨#[]⟩, .slice none 0 0, .slice none 0 0, .string ⟨#[]⟩, .slice none 0 0] 27 (0, 0))) := (hf7.block (bb + 1) (by omega) (by omega)).trans HO5.out
  have hz7 := hf7.size
  have HRV7 := Lib.hid hrv7
  have HBW7 := Lib.hid hbw7
  clear hm7 hf7 hrv7 hbw7
  go_wp2_with (first
    | (with_reducible refine wpList_load_row rfl 27 (.tmp 1) rfl bb rfl 27 _ (0, 0) _ HM7.out Tryd.underlying27 rfl (by kernel_rfl) ?_)
    | (with_reducible refine wpList_store_row rfl 27 (.tmp 2) (.tmp 21) rfl (bb + 1) #[.int .u16 (kind : Int), .string chan, .slice p1 nums.length k1, .slice p2 terms.length k2, .string text, .slice a3 more.length c3] rfl rfl 27 _ HO7.out (by kernel_rfl) rfl (by simp [Value.oneCell']) ?_))
  have hl := run_loadVar_row (P := Tryd.prog) (w7.setRow (bb + 1) #[.int .u16 (kind : Int), .string chan, .slice p1 nums.length k1, .slice p2 terms.length k2, .string text, .slice a3 more.length c3]) (bb + 1) 27 27 #[.int .u16 (kind : Int), .string chan, .slice p1 nums.length k1, .slice p2 terms.length k2, .string text, .slice a3 more.length c3] (0, 0) _ (setRow_heap w7 (bb + 1) _ _ 27 _ HO7.out) Tryd.underlying27 rfl (by kernel_rfl)
  refine bodyPost_ret (results_cell1 Tryd.results12 _ _ _ rfl hl) rfl ?_
  have hset : ∀ g, bb + 1 < g → g < w7.heap.size → (w7.setRow (bb + 1) #[.int .u16 (kind : Int), .string chan, .slice p1 nums.length k1, .slice p2 terms.length k2, .string text, .slice a3 more.length c3]).heap[g]? = w7.heap[g]? := fun g h1 h2 => setRow_other w7 (bb + 1) g _ (by omega)
  refine ⟨_, _, _, rfl, ⟨?_, ?_, ?_⟩, below_setRow HBW7.out (by have := HBB.out; omega) _⟩
  · exact own_base (ownsRow_blocks HN7.out (fun g hg => hset g (by have := (HN7.out.lt g hg).1; omega) (HN7.out.lt g hg).2)) (by have := HBB.out; omega)
  · exact own_base (ownsRow_blocks HT7.out (fun g hg => hset g (by have := (HT7.out.lt g hg).1; omega) (HT7.out.lt g hg).2)) (by have := HBB.out; omega)
  · exact OwnRecs.base (HRV7.out.keep (fun g hg h2 => hset g (by omega) h2)) (by have := HBB.out; omega)
set_option maxHeartbeats 4000000 in
theorem same_m (m : Wire.Msg) (na : Option Addr) (nc : Nat) (ta : Option Addr) (tc : Nat) (ra : Option Addr) (rc : Nat) (na' : Option Addr) (nc' : Nat) (ta' : Option Addr) (tc' : Nat) (ra' : Option Addr) (rc' : Nat) (w : World) (h3 : m.nums.length ≤ maxLen) (h4 : m.terms.length ≤ maxLen) (h5 : m.more.length ≤ maxLen) (hA : MA w m na ta ra) (hB : MA w m na' ta' ra') :
    Calls Tryd.prog 15 #[.agg #[.int .u16 (m.kind : Int), .string m.chan, .slice na m.nums.length nc, .slice ta m.terms.length tc, .string m.text, .slice ra m.more.length rc], .agg #[.int .u16 (m.kind : Int), .string m.chan, .slice na' m.nums.length nc', .slice ta' m.terms.length tc', .string m.text, .slice ra' m.more.length rc']] w (BoolPost true w) := by
  obtain ⟨kind, chan, nums, terms, text, more⟩ := m
  dsimp only at *
  unfold maxLen at h3 h4
  have hb1 := below_new w (.cells #[.int .u16 (kind : Int), .string chan, .slice na nums.length nc, .slice ta terms.length tc, .string text, .slice ra more.length rc] 27)
  have hb2 := below_new (w.alloc (.cells #[.int .u16 (kind : Int), .string chan, .slice na nums.length nc, .slice ta terms.length tc, .string text, .slice ra more.length rc] 27)) (.cells #[.int .u16 (kind : Int), .string chan, .slice na' nums.length nc', .slice ta' terms.length tc', .string text, .slice ra' more.length rc'] 27)
  have hm1 : MC (w.alloc (.cells #[.int .u16 (kind : Int), .string chan, .slice na nums.length nc, .slice ta terms.length tc, .string text, .slice ra more.length rc] 27)) w.heap.size #[.int .u16 (kind : Int), .string chan, .slice na nums.length nc, .slice ta terms.length tc, .string text, .slice ra more.length rc] := heap_alloc_at w _
  have hm2 := heap_alloc_at (w.alloc (.cells #[.int .u16 (kind : Int), .string chan, .slice na nums.length nc, .slice ta terms.length tc, .string text, .slice ra more.length rc] 27)) (.cells #[.int .u16 (kind : Int), .string chan, .slice na' nums.length nc', .slice ta' terms.length tc', .string text, .slice ra' more.length rc'] 27)
  rw [World.size_alloc] at hm2
  have HA := Lib.hid ((hA.later hb1).later hb2)
  have HB := Lib.hid ((hB.later hb1).later hb2)
  have HM1 := Lib.hid (hm1.later hb2)
  have HM2 : Hid (MC _ (w.heap.size + 1) #[.int .u16 (kind : Int), .string chan, .slice na' nums.length nc', .slice ta' terms.length tc', .string text, .slice ra' more.length rc']) := hm2
  have HBW := Lib.hid (hb1.trans (hb2.mono hb1.size))
  clear hb1 hb2 hm1 hm2 hA hB
  go_enter Tryd.func15, Tryd.ntmps15
  go_upto_region 1 with fail
  obtain ⟨bb, hbb⟩ : ∃ bb, w.heap.size = bb := ⟨_, rfl⟩
  generalize (w.alloc (.cells #[.int .u16 (kind : Int), .string chan, .slice na nums.length nc, .slice ta terms.length tc, .string text, .slice ra more.length rc] 27)).alloc (.cells #[.int .u16 (kind : Int), .string chan, .slice na' nums.length nc', .slice ta' terms.length tc', .string text, .slice ra' more.length rc'] 27) = w2 at HA HB HM1 HM2 HBW
  have HBB := Lib.hid hbb
  rw [hbb] at HM1 HM2 ⊢
  clear hbb
  obtain ⟨d0, d1, d2, d3, d4, d5⟩ := HM1.out.cells
  obtain ⟨e0, e1, e2, e3, e4, e5⟩ := HM2.out.cells
  have HS5 := same_yes ra ra' rc rc' more w2 h5 HA.out.more HB.out.more
  have HS5' := Lib.hid HS5
  have HW0 : Hid (Below w2.heap.size w2 w2) := Below.refl _ _
  clear HS5
  go_upto_block 0 with (go_at_call 33; (with_reducible refine Calls.mono HS5'.out ?_); rintro e w3 ⟨rfl, hb3⟩; have HB3 := Lib.hid hb3; clear hb3)
  clear d0 d1 d2 d3 d4 d5 e0 e1 e2 e3 e4 e5
  go_cut [5] from 52 to 69 (fun _ wx => Hid (Below w2.heap.size w2 wx))
  case first =>
    go_wp2_with fail
    go_loopw [5] (fun iv wr => ∃ k : Nat, k ≤ nums.length ∧ iv = .int .i64 k ∧ Hid (Below w2.heap.size w2 wr)) (fun iv _ => nums.length - (intOf iv).toNat)
    case atStart => exact ⟨0, Nat.zero_le _, by go_num, HB3.out⟩
    case round =>
      obtain ⟨k, hk, rfl, hB⟩ := hrel
      obtain ⟨_, _, d2, _, _, _⟩ := (HM1.out.later hB.out).cells
      obtain ⟨_, _, e2, _, _, _⟩ := (HM2.out.later hB.out).cells
      by_cases hlt : k < nums.length
      · obtain ⟨x, hx⟩ : ∃ x, nums[k]? = some x := ⟨_, List.getElem?_eq_getElem hlt⟩
        have hne : nums ≠ [] := by intro h; rw [h] at hlt; simp at hlt
        obtain ⟨b1, o1, rfl, hr1⟩ := (HA.out.later hB.out).nums.resolve_left hne
        obtain ⟨b2, o2, rfl, hr2⟩ := (HB.out.later hB.out).nums.resolve_left hne
        have c1 := hr1 k x hx
        have c2 := hr2 k x hx
        have hkl : (k : Int) < (nums.length : Int) := by omega
        clear hr1 hr2 hx
        go_wp2_with fail
        go_quiet (fail)
        go_wp2
        go_roundw
        case rel => exact ⟨k + 1, by omega, by go_num, below_drewN hB.out _⟩
        case measure => simp [intOf]; omega
      · obtain rfl : k = nums.length := by omega
        go_wp2_with fail
        go_meet
        case rel => exact hB
  case rest =>
    have hB := hcut
    clear HB3
    go_upto_block 2 with fail
    go_wp2_with fail
    go_loopw [6] (fun iv wr => ∃ k : Nat, k ≤ terms.length ∧ iv = .int .i64 k ∧ Hid (Below w2.heap.size w2 wr)) (fun iv _ => terms.length - (intOf iv).toNat)
    case atStart => exact ⟨0, Nat.zero_le _, by go_num, hB.out⟩
    case round =>
      obtain ⟨k, hk, rfl, hB⟩ := hrel
      obtain ⟨_, _, _, d2, _, _⟩ := (HM1.out.later hB.out).cells
      obtain ⟨_, _, _, e2, _, _⟩ := (HM2.out.later hB.out).cells
      by_cases hlt : k < terms.length
      · obtain ⟨x, hx⟩ : ∃ x, terms[k]? = some x := ⟨_, List.getElem?_eq_getElem hlt⟩
        have hne : terms ≠ [] := by intro h; rw [h] at hlt; simp at hlt
        obtain ⟨b1, o1, rfl, hr1⟩ := (HA.out.later hB.out).terms.resolve_left hne
        obtain ⟨b2, o2, rfl, hr2⟩ := (HB.out.later hB.out).terms.resolve_left hne
        have c1 := hr1 k x hx
        have c2 := hr2 k x hx
        have hkl : (k : Int) < (terms.length : Int) := by omega
        clear hr1 hr2 hx
        go_wp2_with fail
        go_quiet (fail)
        go_wp2
        go_roundw
        case rel => exact ⟨k + 1, by omega, by go_num, below_drewN hB.out _⟩
        case measure => simp [intOf]; omega
      · obtain rfl : k = terms.length := by omega
        go_wp2_with fail
        go_ret
        exact ⟨rfl, HBW.out.trans (hB.out.mono HBW.out.size)⟩
/-- what an argument's message holds -/
structure MR (m : Wire.Msg) : Prop where
  vm : VM m
  c : m.chan.size ≤ maxLen
  x : m.text.size ≤ maxLen
  n : m.nums.length ≤ maxLen
  t : m.terms.length ≤ maxLen
  r : m.more.length ≤ maxLen
  ts : ∀ t ∈ m.terms, t.size ≤ maxLen
  rt : ∀ r ∈ m.more, r.t < 18446744073709551616
end Go.Proofs.YtakfhoodjcfpcaaDoor.T
