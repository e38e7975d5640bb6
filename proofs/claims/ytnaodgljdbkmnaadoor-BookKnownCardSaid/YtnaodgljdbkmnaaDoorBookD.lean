/- Offer -/
import Derived.Test.YtnaodgljdbkmnaaDoorBookC
import Derived.Lib.MinMax
namespace Go.Proofs.YtnaodgljdbkmnaaDoor
set_option linter.unusedVariables false
open Go.RowKit
def k2B (b : Bil) (amt : Int) : Bool := if amt < max b.amt 1 then true else decide (2100000000000000000 < amt)
def k3B (b : Bil) (amt : Int) : Bool := if 0 < b.amt then decide (b.amt < wrap64 (amt - b.amt)) else false
def k4B (b : Bil) (height expiry : Int) : Bool := if height / 2147483648 = 0 then (if expiry / 2147483648 = 0 then decide (wrap64 (expiry - height) < b.delta) else true) else true
def offE (k0 k1 k2 k3 k4 : Bool) : Int := if k0 = true then 232 else if k1 = true then 231 else if k2 = true then 233 else if k3 = true then 233 else if k4 = true then 241 else 0
/-- what Offer tells of a bill -/
def offX (b : Bil) (amt now height expiry : Int) : Int := offE b.paid (lateB b now) (k2B b amt) (k3B b amt) (k4B b height expiry)
def offV (o : Option (Nat × Ent)) (amt now height expiry : Int) : Value := match o with
  | none => .tuple #[.string ⟨#[]⟩, .int .i64 230]
  | some x => if offX x.2.2 amt now height expiry = 0 then .tuple #[.string x.2.2.pre, .int .i64 0] else .tuple #[.string ⟨#[]⟩, .int .i64 (offX x.2.2 amt now height expiry)]
def offA (k0 k1 k2 k3 k4 : Bool) : Value := .agg #[.bool k0, .int .i64 232, .bool k1, .int .i64 231, .bool k2, .int .i64 233, .bool k3, .int .i64 233, .bool k4, .int .i64 241]
theorem off0 (k0 k1 k2 k3 k4 : Bool) (w : World) : (Instr.index 97 (offA k0 k1 k2 k3 k4) (.int .i64 0)).run Tryd.prog w = .ok (.agg #[.bool k0, .int .i64 232]) w := by kernel_rfl
theorem off1 (k0 k1 k2 k3 k4 : Bool) (w : World) : (Instr.index 97 (offA k0 k1 k2 k3 k4) (.int .i64 1)).run Tryd.prog w = .ok (.agg #[.bool k1, .int .i64 231]) w := by kernel_rfl
theorem off2 (k0 k1 k2 k3 k4 : Bool) (w : World) : (Instr.index 97 (offA k0 k1 k2 k3 k4) (.int .i64 2)).run Tryd.prog w = .ok (.agg #[.bool k2, .int .i64 233]) w := by kernel_rfl
theorem off3 (k0 k1 k2 k3 k4 : Bool) (w : World) : (Instr.index 97 (offA k0 k1 k2 k3 k4) (.int .i64 3)).run Tryd.prog w = .ok (.agg #[.bool k3, .int .i64 233]) w := by kernel_rfl
theorem off4 (k0 k1 k2 k3 k4 : Bool) (w : World) : (Instr.index 97 (offA k0 k1 k2 k3 k4) (.int .i64 4)).run Tryd.prog w = .ok (.agg #[.bool k4, .int .i64 241]) w := by kernel_rfl
theorem Later.blk {w0 : World} {b : Nat} {o : Obj} (h : w0.heap[b]? = some o) (n : Later w0) : n.at_.heap[b]? = some o := (n.below.block b (lt_of_heap h)).trans h
set_option maxRecDepth 100000 in
set_option maxHeartbeats 16000000 in
theorem offer_any (base bk mm : Nat) (v : Value) (L : List Ent) (w : World) (h : BookAt w base bk mm v L) (x : ByteArray) (amt now height expiry : Int) : Calls Tryd.prog 29 #[.pointer (some ⟨bk, 0, none⟩), .string x, .int .i64 amt, .int .i64 now, .int .i64 height, .int .i64 expiry] w fun e w' => e = .returned (offV (findB x L 0) amt now height expiry) ∧ Below w.heap.size w w' := by
  have HF : Hid (Calls Tryd.prog 49 #[.pointer (some ⟨bk, 0, none⟩), .string x] w fun e w' => e = .returned (fndV (findB x L 0)) ∧ Below w.heap.size w w') := bfind_any base bk mm v L w h x
  unfold fndV at HF
  cases hf : findB x L 0 with
  | none =>
    rw [hf] at HF
    simp only [Option.map_none, Option.getD_none, Option.isSome_none, Bool.false_eq_true, if_false] at HF
    unfold offV
    clear h hf
    go_enter Tryd.func29, Tryd.ntmps29
    go_wp2_with (go_at_call 49; (with_reducible refine Calls.mono HF.out ?_); rintro e w1 ⟨rfl, hb1⟩; have B1 := Lib.hid hb1; clear hb1)
    go_ret2
    exact ⟨rfl, B1.out⟩
  | some q =>
    obtain ⟨j, ⟨bb, b⟩⟩ := q
    rw [hf] at HF
    simp only [Option.map_some, Option.getD_some, Option.isSome_some, if_true] at HF
    unfold Ent.ptr at HF
    obtain ⟨hm, hx⟩ := findB_mem hf
    have HBE := Lib.hid (h.bills _ hm).1
    have hok := h.ok _ hm
    have h0 := hok.a0
    have HOK := Lib.hid hok
    have HV : Hid (∀ X, X = offX b amt now height expiry → offV (some (j, bb, b)) amt now height expiry = if X = 0 then .tuple #[.string b.pre, .int .i64 0] else .tuple #[.string ⟨#[]⟩, .int .i64 X]) := fun X hX => by subst hX; rfl
    obtain ⟨V, hV⟩ : ∃ V, offV (some (j, bb, b)) amt now height expiry = V := ⟨_, rfl⟩
    rw [hV] at HV ⊢
    clear h hf hm hx hok hV
    go_enter Tryd.func29, Tryd.ntmps29
    go_upto_region 4 with (go_at_call 49; (with_reducible refine Calls.mono HF.out ?_); rintro e w1 ⟨rfl, hb1⟩; have B1 := Lib.hid hb1; have hbe := (hb1.block _ (lt_of_heap HBE.out)).trans HBE.out; clear hb1)
    go_cut [86, 87] from 27 to 88 (fun p q wx => p = offA b.paid (lateB b now) (k2B b amt) (k3B b amt) (k4B b height expiry) ∧ q = .int .i64 0 ∧ Hid (Below w.heap.size w wx))
    case first =>
      obtain ⟨g0, g1, g2, g3, g4, g5, g6, g7⟩ := eight hbe
      have HBB := Lib.hid hbe
      clear hbe g0 g1 g3 g4 g6
      replace g2 := Later.cell g2; replace g5 := Later.cell g5; replace g7 := Later.cell g7
      have KEY : Hid (∀ (k2 k3 k4 : Bool), k2B b amt = k2 → k3B b amt = k3 → k4B b height expiry = k4 → ∀ p, p = offA b.paid (lateB b now) k2 k3 k4 → p = offA b.paid (lateB b now) (k2B b amt) (k3B b amt) (k4B b height expiry)) := fun k2 k3 k4 e1 e2 e3 p hp => by rw [e1, e2, e3]; exact hp
      clear h0
      by_cases c2 : amt < max b.amt 1
      · by_cases c3 : 0 < b.amt
        · by_cases c4 : height / 2147483648 = 0
          · by_cases c5 : expiry / 2147483648 = 0
            · have HK := Lib.hid (KEY.out (true) (decide (b.amt < wrap64 (amt - b.amt))) (decide (wrap64 (expiry - height) < b.delta)) (by unfold k2B; simp only [c2, if_true]; try rfl) (by unfold k3B; simp only [c3, if_true]; try rfl) (by unfold k4B; simp only [c4, if_true, c5, if_true]; try rfl))
              have d2 : decide (amt < max b.amt 1) = true := by simp only [c2]; rfl
              have d3 : decide (0 < b.amt) = true := by simp only [c3]; rfl
              have d4 : (height / 2147483648 != 0) = false := by simpa using c4
              have d5 : (expiry / 2147483648 != 0) = false := by simpa using c5
              clear c2 c3 c4 c5 KEY
              refine wp_region_later (by kernel_rfl) (by kernel_rfl) ?_
              repeat (go_big_quiet_step ((go_at_call 50; exact calls_later (late_any bb b _ (Later.blk HBB.out _) HOK.out now))))
              refine wpQuiet_nil ?_
              intro _ hw'
              obtain ⟨nq, rfl⟩ := hw'
              go_wp2_with fail
              go_meet
              exact ⟨HK.out _ rfl, rfl, Lib.hid (B1.out.trans (nq.below.mono B1.out.size))⟩
            · have HK := Lib.hid (KEY.out (true) (decide (b.amt < wrap64 (amt - b.amt))) (true) (by unfold k2B; simp only [c2, if_true]; try rfl) (by unfold k3B; simp only [c3, if_true]; try rfl) (by unfold k4B; simp only [c4, if_true, c5, if_false]; try rfl))
              have d2 : decide (amt < max b.amt 1) = true := by simp only [c2]; rfl
              have d3 : decide (0 < b.amt) = true := by simp only [c3]; rfl
              have d4 : (height / 2147483648 != 0) = false := by simpa using c4
              have d5 : (expiry / 2147483648 != 0) = true := by simpa using c5
              clear c2 c3 c4 c5 KEY
              refine wp_region_later (by kernel_rfl) (by kernel_rfl) ?_
              repeat (go_big_quiet_step ((go_at_call 50; exact calls_later (late_any bb b _ (Later.blk HBB.out _) HOK.out now))))
              refine wpQuiet_nil ?_
              intro _ hw'
              obtain ⟨nq, rfl⟩ := hw'
              go_wp2_with fail
              go_meet
              exact ⟨HK.out _ rfl, rfl, Lib.hid (B1.out.trans (nq.below.mono B1.out.size))⟩
          · by_cases c5 : expiry / 2147483648 = 0
            · have HK := Lib.hid (KEY.out (true) (decide (b.amt < wrap64 (amt - b.amt))) (true) (by unfold k2B; simp only [c2, if_true]; try rfl) (by unfold k3B; simp only [c3, if_true]; try rfl) (by unfold k4B; simp only [c4, if_false, c5, if_true]; try rfl))
              have d2 : decide (amt < max b.amt 1) = true := by simp only [c2]; rfl
              have d3 : decide (0 < b.amt) = true := by simp only [c3]; rfl
              have d4 : (height / 2147483648 != 0) = true := by simpa using c4
              have d5 : (expiry / 2147483648 != 0) = false := by simpa using c5
              clear c2 c3 c4 c5 KEY
              refine wp_region_later (by kernel_rfl) (by kernel_rfl) ?_
              repeat (go_big_quiet_step ((go_at_call 50; exact calls_later (late_any bb b _ (Later.blk HBB.out _) HOK.out now))))
              refine wpQuiet_nil ?_
              intro _ hw'
              obtain ⟨nq, rfl⟩ := hw'
              go_wp2_with fail
              go_meet
              exact ⟨HK.out _ rfl, rfl, Lib.hid (B1.out.trans (nq.below.mono B1.out.size))⟩
            · have HK := Lib.hid (KEY.out (true) (decide (b.amt < wrap64 (amt - b.amt))) (true) (by unfold k2B; simp only [c2, if_true]; try rfl) (by unfold k3B; simp only [c3, if_true]; try rfl) (by unfold k4B; simp only [c4, if_false, c5, if_false]; try rfl))
              have d2 : decide (amt < max b.amt 1) = true := by simp only [c2]; rfl
              have d3 : decide (0 < b.amt) = true := by simp only [c3]; rfl
              have d4 : (height / 2147483648 != 0) = true := by simpa using c4
              have d5 : (expiry / 2147483648 != 0) = true := by simpa using c5
              clear c2 c3 c4 c5 KEY
              refine wp_region_later (by kernel_rfl) (by kernel_rfl) ?_
              repeat (go_big_quiet_step ((go_at_call 50; exact calls_later (late_any bb b _ (Later.blk HBB.out _) HOK.out now))))
              refine wpQuiet_nil ?_
              intro _ hw'
              obtain ⟨nq, rfl⟩ := hw'
              go_wp2_with fail
              go_meet
              exact ⟨HK.out _ rfl, rfl, Lib.hid (B1.out.trans (nq.below.mono B1.out.size))⟩
        · by_cases c4 : height / 2147483648 = 0
          · by_cases c5 : expiry / 2147483648 = 0
            · have HK := Lib.hid (KEY.out (true) (false) (decide (wrap64 (expiry - height) < b.delta)) (by unfold k2B; simp only [c2, if_true]; try rfl) (by unfold k3B; simp only [c3, if_false]; try rfl) (by unfold k4B; simp only [c4, if_true, c5, if_true]; try rfl))
              have d2 : decide (amt < max b.amt 1) = true := by simp only [c2]; rfl
              have d3 : decide (0 < b.amt) = false := by simp only [c3]; rfl
              have d4 : (height / 2147483648 != 0) = false := by simpa using c4
              have d5 : (expiry / 2147483648 != 0) = false := by simpa using c5
              clear c2 c3 c4 c5 KEY
              refine wp_region_later (by kernel_rfl) (by kernel_rfl) ?_
              repeat (go_big_quiet_step ((go_at_call 50; exact calls_later (late_any bb b _ (Later.blk HBB.out _) HOK.out now))))
              refine wpQuiet_nil ?_
              intro _ hw'
              obtain ⟨nq, rfl⟩ := hw'
              go_wp2_with fail
              go_meet
              exact ⟨HK.out _ rfl, rfl, Lib.hid (B1.out.trans (nq.below.mono B1.out.size))⟩
            · have HK := Lib.hid (KEY.out (true) (false) (true) (by unfold k2B; simp only [c2, if_true]; try rfl) (by unfold k3B; simp only [c3, if_false]; try rfl) (by unfold k4B; simp only [c4, if_true, c5, if_false]; try rfl))
              have d2 : decide (amt < max b.amt 1) = true := by simp only [c2]; rfl
              have d3 : decide (0 < b.amt) = false := by simp only [c3]; rfl
              have d4 : (height / 2147483648 != 0) = false := by simpa using c4
              have d5 : (expiry / 2147483648 != 0) = true := by simpa using c5
              clear c2 c3 c4 c5 KEY
              refine wp_region_later (by kernel_rfl) (by kernel_rfl) ?_
              repeat (go_big_quiet_step ((go_at_call 50; exact calls_later (late_any bb b _ (Later.blk HBB.out _) HOK.out now))))
              refine wpQuiet_nil ?_
              intro _ hw'
              obtain ⟨nq, rfl⟩ := hw'
              go_wp2_with fail
              go_meet
              exact ⟨HK.out _ rfl, rfl, Lib.hid (B1.out.trans (nq.below.mono B1.out.size))⟩
          · by_cases c5 : expiry / 2147483648 = 0
            · have HK := Lib.hid (KEY.out (true) (false) (true) (by unfold k2B; simp only [c2, if_true]; try rfl) (by unfold k3B; simp only [c3, if_false]; try rfl) (by unfold k4B; simp only [c4, if_false, c5, if_true]; try rfl))
              have d2 : decide (amt < max b.amt 1) = true := by simp only [c2]; rfl
              have d3 : decide (0 < b.amt) = false := by simp only [c3]; rfl
              have d4 : (height / 2147483648 != 0) = true := by simpa using c4
              have d5 : (expiry / 2147483648 != 0) = false := by simpa using c5
              clear c2 c3 c4 c5 KEY
              refine wp_region_later (by kernel_rfl) (by kernel_rfl) ?_
              repeat (go_big_quiet_step ((go_at_call 50; exact calls_later (late_any bb b _ (Later.blk HBB.out _) HOK.out now))))
              refine wpQuiet_nil ?_
              intro _ hw'
              obtain ⟨nq, rfl⟩ := hw'
              go_wp2_with fail
              go_meet
              exact ⟨HK.out _ rfl, rfl, Lib.hid (B1.out.trans (nq.below.mono B1.out.size))⟩
            · have HK := Lib.hid (KEY.out (true) (false) (true) (by unfold k2B; simp only [c2, if_true]; try rfl) (by unfold k3B; simp only [c3, if_false]; try rfl) (by unfold k4B; simp only [c4, if_false, c5, if_false]; try rfl))
              have d2 : decide (amt < max b.amt 1) = true := by simp only [c2]; rfl
              have d3 : decide (0 < b.amt) = false := by simp only [c3]; rfl
              have d4 : (height / 2147483648 != 0) = true := by simpa using c4
              have d5 : (expiry / 2147483648 != 0) = true := by simpa using c5
              clear c2 c3 c4 c5 KEY
              refine wp_region_later (by kernel_rfl) (by kernel_rfl) ?_
              repeat (go_big_quiet_step ((go_at_call 50; exact calls_later (late_any bb b _ (Later.blk HBB.out _) HOK.out now))))
              refine wpQuiet_nil ?_
              intro _ hw'
              obtain ⟨nq, rfl⟩ := hw'
              go_wp2_with fail
              go_meet
              exact ⟨HK.out _ rfl, rfl, Lib.hid (B1.out.trans (nq.below.mono B1.out.size))⟩
      · by_cases c3 : 0 < b.amt
        · by_cases c4 : height / 2147483648 = 0
          · by_cases c5 : expiry / 2147483648 = 0
            · have HK := Lib.hid (KEY.out (decide (2100000000000000000 < amt)) (decide (b.amt < wrap64 (amt - b.amt))) (decide (wrap64 (expiry - height) < b.delta)) (by unfold k2B; simp only [c2, if_false]; try rfl) (by unfold k3B; simp only [c3, if_true]; try rfl) (by unfold k4B; simp only [c4, if_true, c5, if_true]; try rfl))
              have d2 : decide (amt < max b.amt 1) = false := by simp only [c2]; rfl
              have d3 : decide (0 < b.amt) = true := by simp only [c3]; rfl
              have d4 : (height / 2147483648 != 0) = false := by simpa using c4
              have d5 : (expiry / 2147483648 != 0) = false := by simpa using c5
              clear c2 c3 c4 c5 KEY
              refine wp_region_later (by kernel_rfl) (by kernel_rfl) ?_
              repeat (go_big_quiet_step ((go_at_call 50; exact calls_later (late_any bb b _ (Later.blk HBB.out _) HOK.out now))))
              refine wpQuiet_nil ?_
              intro _ hw'
              obtain ⟨nq, rfl⟩ := hw'
              go_wp2_with fail
              go_meet
              exact ⟨HK.out _ rfl, rfl, Lib.hid (B1.out.trans (nq.below.mono B1.out.size))⟩
            · have HK := Lib.hid (KEY.out (decide (2100000000000000000 < amt)) (decide (b.amt < wrap64 (amt - b.amt))) (true) (by unfold k2B; simp only [c2, if_false]; try rfl) (by unfold k3B; simp only [c3, if_true]; try rfl) (by unfold k4B; simp only [c4, if_true, c5, if_false]; try rfl))
              have d2 : decide (amt < max b.amt 1) = false := by simp only [c2]; rfl
              have d3 : decide (0 < b.amt) = true := by simp only [c3]; rfl
              have d4 : (height / 2147483648 != 0) = false := by simpa using c4
              have d5 : (expiry / 2147483648 != 0) = true := by simpa using c5
              clear c2 c3 c4 c5 KEY
              refine wp_region_later (by kernel_rfl) (by kernel_rfl) ?_
              repeat (go_big_quiet_step ((go_at_call 50; exact calls_later (late_any bb b _ (Later.blk HBB.out _) HOK.out now))))
              refine wpQuiet_nil ?_
              intro _ hw'
              obtain ⟨nq, rfl⟩ := hw'
              go_wp2_with fail
              go_meet
              exact ⟨HK.out _ rfl, rfl, Lib.hid (B1.out.trans (nq.below.mono B1.out.size))⟩
          · by_cases c5 : expiry / 2147483648 = 0
            · have HK := Lib.hid (KEY.out (decide (2100000000000000000 < amt)) (decide (b.amt < wrap64 (amt - b.amt))) (true) (by unfold k2B; simp only [c2, if_false]; try rfl) (by unfold k3B; simp only [c3, if_true]; try rfl) (by unfold k4B; simp only [c4, if_false, c5, if_true]; try rfl))
              have d2 : decide (amt < max b.amt 1) = false := by simp only [c2]; rfl
              have d3 : decide (0 < b.amt) = true := by simp only [c3]; rfl
              have d4 : (height / 2147483648 != 0) = true := by simpa using c4
              have d5 : (expiry / 2147483648 != 0) = false := by simpa using c5
              clear c2 c3 c4 c5 KEY
              refine wp_region_later (by kernel_rfl) (by kernel_rfl) ?_
              repeat (go_big_quiet_step ((go_at_call 50; exact calls_later (late_any bb b _ (Later.blk HBB.out _) HOK.out now))))
              refine wpQuiet_nil ?_
              intro _ hw'
              obtain ⟨nq, rfl⟩ := hw'
              go_wp2_with fail
              go_meet
              exact ⟨HK.out _ rfl, rfl, Lib.hid (B1.out.trans (nq.below.mono B1.out.size))⟩
            · have HK := Lib.hid (KEY.out (decide (2100000000000000000 < amt)) (decide (b.amt < wrap64 (amt - b.amt))) (true) (by unfold k2B; simp only [c2, if_false]; try rfl) (by unfold k3B; simp only [c3, if_true]; try rfl) (by unfold k4B; simp only [c4, if_false, c5, if_false]; try rfl))
              have d2 : decide (amt < max b.amt 1) = false := by simp only [c2]; rfl
              have d3 : decide (0 < b.amt) = true := by simp only [c3]; rfl
              have d4 : (height / 2147483648 != 0) = true := by simpa using c4
              have d5 : (expiry / 2147483648 != 0) = true := by simpa using c5
              clear c2 c3 c4 c5 KEY
              refine wp_region_later (by kernel_rfl) (by kernel_rfl) ?_
              repeat (go_big_quiet_step ((go_at_call 50; exact calls_later (late_any bb b _ (Later.blk HBB.out _) HOK.out now))))
              refine wpQuiet_nil ?_
              intro _ hw'
              obtain ⟨nq, rfl⟩ := hw'
              go_wp2_with fail
              go_meet
              exact ⟨HK.out _ rfl, rfl, Lib.hid (B1.out.trans (nq.below.mono B1.out.size))⟩
        · by_cases c4 : height / 2147483648 = 0
          · by_cases c5 : expiry / 2147483648 = 0
            · have HK := Lib.hid (KEY.out (decide (2100000000000000000 < amt)) (false) (decide (wrap64 (expiry - height) < b.delta)) (by unfold k2B; simp only [c2, if_false]; try rfl) (by unfold k3B; simp only [c3, if_false]; try rfl) (by unfold k4B; simp only [c4, if_true, c5, if_true]; try rfl))
              have d2 : decide (amt < max b.amt 1) = false := by simp only [c2]; rfl
              have d3 : decide (0 < b.amt) = false := by simp only [c3]; rfl
              have d4 : (height / 2147483648 != 0) = false := by simpa using c4
              have d5 : (expiry / 2147483648 != 0) = false := by simpa using c5
              clear c2 c3 c4 c5 KEY
              refine wp_region_later (by kernel_rfl) (by kernel_rfl) ?_
              repeat (go_big_quiet_step ((go_at_call 50; exact calls_later (late_any bb b _ (Later.blk HBB.out _) HOK.out now))))
              refine wpQuiet_nil ?_
              intro _ hw'
              obtain ⟨nq, rfl⟩ := hw'
              go_wp2_with fail
              go_meet
              exact ⟨HK.out _ rfl, rfl, Lib.hid (B1.out.trans (nq.below.mono B1.out.size))⟩
            · have HK := Lib.hid (KEY.out (decide (2100000000000000000 < amt)) (false) (true) (by unfold k2B; simp only [c2, if_false]; try rfl) (by unfold k3B; simp only [c3, if_false]; try rfl) (by unfold k4B; simp only [c4, if_true, c5, if_false]; try rfl))
              have d2 : decide (amt < max b.amt 1) = false := by simp only [c2]; rfl
              have d3 : decide (0 < b.amt) = false := by simp only [c3]; rfl
              have d4 : (height / 2147483648 != 0) = false := by simpa using c4
              have d5 : (expiry / 2147483648 != 0) = true := by simpa using c5
              clear c2 c3 c4 c5 KEY
              refine wp_region_later (by kernel_rfl) (by kernel_rfl) ?_
              repeat (go_big_quiet_step ((go_at_call 50; exact calls_later (late_any bb b _ (Later.blk HBB.out _) HOK.out now))))
              refine wpQuiet_nil ?_
              intro _ hw'
              obtain ⟨nq, rfl⟩ := hw'
              go_wp2_with fail
              go_meet
              exact ⟨HK.out _ rfl, rfl, Lib.hid (B1.out.trans (nq.below.mono B1.out.size))⟩
          · by_cases c5 : expiry / 2147483648 = 0
            · have HK := Lib.hid (KEY.out (decide (2100000000000000000 < amt)) (false) (true) (by unfold k2B; simp only [c2, if_false]; try rfl) (by unfold k3B; simp only [c3, if_false]; try rfl) (by unfold k4B; simp only [c4, if_false, c5, if_true]; try rfl))
              have d2 : decide (amt < max b.amt 1) = false := by simp only [c2]; rfl
              have d3 : decide (0 < b.amt) = false := by simp only [c3]; rfl
              have d4 : (height / 2147483648 != 0) = true := by simpa using c4
              have d5 : (expiry / 2147483648 != 0) = false := by simpa using c5
              clear c2 c3 c4 c5 KEY
              refine wp_region_later (by kernel_rfl) (by kernel_rfl) ?_
              repeat (go_big_quiet_step ((go_at_call 50; exact calls_later (late_any bb b _ (Later.blk HBB.out _) HOK.out now))))
              refine wpQuiet_nil ?_
              intro _ hw'
              obtain ⟨nq, rfl⟩ := hw'
              go_wp2_with fail
              go_meet
              exact ⟨HK.out _ rfl, rfl, Lib.hid (B1.out.trans (nq.below.mono B1.out.size))⟩
            · have HK := Lib.hid (KEY.out (decide (2100000000000000000 < amt)) (false) (true) (by unfold k2B; simp only [c2, if_false]; try rfl) (by unfold k3B; simp only [c3, if_false]; try rfl) (by unfold k4B; simp only [c4, if_false, c5, if_false]; try rfl))
              have d2 : decide (amt < max b.amt 1) = false := by simp only [c2]; rfl
              have d3 : decide (0 < b.amt) = false := by simp only [c3]; rfl
              have d4 : (height / 2147483648 != 0) = true := by simpa using c4
              have d5 : (expiry / 2147483648 != 0) = true := by simpa using c5
              clear c2 c3 c4 c5 KEY
              refine wp_region_later (by kernel_rfl) (by kernel_rfl) ?_
              repeat (go_big_quiet_step ((go_at_call 50; exact calls_later (late_any bb b _ (Later.blk HBB.out _) HOK.out now))))
              refine wpQuiet_nil ?_
              intro _ hw'
              obtain ⟨nq, rfl⟩ := hw'
              go_wp2_with fail
              go_meet
              exact ⟨HK.out _ rfl, rfl, Lib.hid (B1.out.trans (nq.below.mono B1.out.size))⟩
    case rest =>
      obtain ⟨rfl, rfl, B2⟩ := hcut
      have HX : Hid (∀ X, X = offE b.paid (lateB b now) (k2B b amt) (k3B b amt) (k4B b height expiry) → V = if X = 0 then .tuple #[.string b.pre, .int .i64 0] else .tuple #[.string ⟨#[]⟩, .int .i64 X]) := HV.out
      generalize b.paid = k0 at HX ⊢
      generalize lateB b now = k1 at HX ⊢
      generalize k2B b amt = k2 at HX ⊢
      generalize k3B b amt = k3 at HX ⊢
      generalize k4B b height expiry = k4 at HX ⊢
      have z2 := B2.out.size
      obtain ⟨e0, e1, e2, e3, e4, e5, e6, e7⟩ := eight ((B2.out.block _ (lt_of_heap HBE.out)).trans HBE.out)
      clear e0 e2 e3 e4 e5 e6 e7
      have i0 := off0 k0 k1 k2 k3 k4
      have i1 := off1 k0 k1 k2 k3 k4
      have i2 := off2 k0 k1 k2 k3 k4
      have i3 := off3 k0 k1 k2 k3 k4
      have i4 := off4 k0 k1 k2 k3 k4
      cases k0 with
      | true =>
        have hv := Lib.hid (HX.out 232 rfl)
        go_wp2_with fail
        refine wp_loop_rounds 6 ?_
        repeat any_goals (rw [rounds_succ]; go_wp2_with fail)
        go_quiet (fail)
        go_wp2_with fail
        go_ret2
        exact ⟨by rw [hv.out]; rfl, by (repeat' (first | exact B2.out | (with_reducible refine Below.alloc ?_ ?_ _) | (with_reducible refine Below.drew ?_) | (with_reducible refine below_drewN ?_ _) | (with_reducible refine Below.setCell ?_ ?_ _) | (simp only [World.size_alloc, World.size_setCell]; omega) | omega))⟩
      | false =>
        cases k1 with
        | true =>
          have hv := Lib.hid (HX.out 231 rfl)
          go_wp2_with fail
          refine wp_loop_rounds 6 ?_
          repeat any_goals (rw [rounds_succ]; go_wp2_with fail)
          go_quiet (fail)
          go_wp2_with fail
          go_ret2
          exact ⟨by rw [hv.out]; rfl, by (repeat' (first | exact B2.out | (with_reducible refine Below.alloc ?_ ?_ _) | (with_reducible refine Below.drew ?_) | (with_reducible refine below_drewN ?_ _) | (with_reducible refine Below.setCell ?_ ?_ _) | (simp only [World.size_alloc]; omega) | omega))⟩
        | false =>
          cases k2 with
          | true =>
            have hv := Lib.hid (HX.out 233 rfl)
            go_wp2_with fail
            refine wp_loop_rounds 6 ?_
            repeat any_goals (rw [rounds_succ]; go_wp2_with fail)
            go_quiet (fail)
            go_wp2_with fail
            go_ret2
            exact ⟨by rw [hv.out]; rfl, by (repeat' (first | exact B2.out | (with_reducible refine Below.alloc ?_ ?_ _) | (with_reducible refine Below.drew ?_) | (with_reducible refine below_drewN ?_ _) | (with_reducible refine Below.setCell ?_ ?_ _) | (simp only [World.size_alloc]; omega) | omega))⟩
          | false =>
            cases k3 with
            | true =>
              have hv := Lib.hid (HX.out 233 rfl)
              go_wp2_with fail
              refine wp_loop_rounds 6 ?_
              repeat any_goals (rw [rounds_succ]; go_wp2_with fail)
              go_quiet (fail)
              go_wp2_with fail
              go_ret2
              exact ⟨by rw [hv.out]; rfl, by (repeat' (first | exact B2.out | (with_reducible refine Below.alloc ?_ ?_ _) | (with_reducible refine Below.drew ?_) | (with_reducible refine below_drewN ?_ _) | (with_reducible refine Below.setCell ?_ ?_ _) | (simp only [World.size_alloc]; omega) | omega))⟩
            | false =>
              cases k4 with
              | true =>
                have hv := Lib.hid (HX.out 241 rfl)
                go_wp2_with fail
                refine wp_loop_rounds 6 ?_
                repeat any_goals (rw [rounds_succ]; go_wp2_with fail)
                go_quiet (fail)
                go_wp2_with fail
                go_ret2
                exact ⟨by rw [hv.out]; rfl, by (repeat' (first | exact B2.out | (with_reducible refine Below.alloc ?_ ?_ _) | (with_reducible refine Below.drew ?_) | (with_reducible refine below_drewN ?_ _) | (with_reducible refine Below.setCell ?_ ?_ _) | (simp only [World.size_alloc]; omega) | omega))⟩
              | false =>
                have e1x := cell_later' (w := ((((wc.alloc (.cells #[.bool false, .int .i64 232] 94)).alloc (.cells #[.bool false, .int .i64 231] 94)).alloc (.cells #[.bool false, .int .i64 233] 94)).alloc (.cells #[.bool false, .int .i64 233] 94)).alloc (.cells #[.bool false, .int .i64 241] 94)) (by (repeat' (first | exact Below.refl _ _ | (with_reducible refine Below.alloc ?_ ?_ _) | (simp only [World.size_alloc]; omega) | omega))) e1
                have hv := Lib.hid (HX.out 0 rfl)
                go_wp2_with fail
                refine wp_loop_rounds 6 ?_
                repeat any_goals (rw [rounds_succ]; go_wp2_with fail)
                go_ret2
                exact ⟨by rw [hv.out]; rfl, by (repeat' (first | exact B2.out | (with_reducible refine Below.alloc ?_ ?_ _) | (with_reducible refine Below.drew ?_) | (with_reducible refine below_drewN ?_ _) | (with_reducible refine Below.setCell ?_ ?_ _) | (simp only [World.size_alloc]; omega) | omega))⟩
end Go.Proofs.YtnaodgljdbkmnaaDoor
