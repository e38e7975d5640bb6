/- TlvKnown: its parts. -/
import Derived.Test.YtcdeggocnaodiaaY
namespace Go.Proofs.Ytcdeggocnaodiaa
open Go.RowKit Tlv

/-- append onto bytes of the call's own: the old row is still there -/
theorem app_keep (w : World) (base : Nat) (v : Value) (l : List UInt8) (h : Byt w base v l) (ad : Addr) (m : List UInt8) (c : Nat) (hs : Src w (some ad) m) (hn : l.length + m.length ≤ 140737488355328) (hpos : 0 < l.length) (hm : 0 < m.length) (hbase : base ≤ w.heap.size) (ty : TypeId) :
    ∃ v' w', (Builtin.append_ #[23, 23] ty #[v, .slice (some ad) m.length c]).run Try.prog w = .ok v' w' ∧ Byt w' base v' (l ++ m) ∧ w.grownBy w' v.ownBlock ∧ Byt w' base v l := by
  obtain ⟨i0, hi0, hz0, hz1, hz2⟩ := info_parts Try.info5
  obtain ⟨v', w', hr, h2, h3, h4, h5⟩ := run_append_own_at (P := Try.prog) w base 23 ty 5 i0 (.int .u8 0) 1 1 Try.underlying23 hi0 hz0 hz1 hz2 rfl (by omega) v l.length (l.map bv) h ad m.length c (m.map bv) (by simp) (by
      intro j u hj
      rw [List.getElem?_map] at hj
      cases hk : m[j]? with
      | none => rw [hk] at hj; cases hj
      | some x =>
        rw [hk] at hj; cases hj
        obtain ⟨b, off, e, hc⟩ := hs.resolve_left (by intro e; rw [e] at hm; simp at hm)
        cases e
        rw [Addr.add_lit]
        exact hc j x hk) (by intro u hu; obtain ⟨x, _, rfl⟩ := List.mem_map.1 hu; rfl) (by unfold maxLen; omega) (by omega) hbase
  refine ⟨v', w', hr, byt_of' h2 (by simp), h3, ?_⟩
  have hnews : ∀ (j : Nat) (u : Value), (m.map bv)[j]? = some u → w.cell? (ad.add j) = some u := by
    intro j u hj
    rw [List.getElem?_map] at hj
    cases hk : m[j]? with
    | none => rw [hk] at hj; cases hj
    | some x =>
      rw [hk] at hj; cases hj
      obtain ⟨b, off, e, hc⟩ := hs.resolve_left (by intro e; rw [e] at hm; simp at hm)
      cases e
      rw [Addr.add_lit]
      exact hc j x hk
  have h1 : ∀ u ∈ m.map bv, u.oneCell' = true := by intro u hu; obtain ⟨x, _, rfl⟩ := List.mem_map.1 hu; rfl
  rcases h.2 with ⟨rfl, hl⟩ | ⟨g, cap, cur, rfl, hbg, hg, hnc, hcm, hcs, htake⟩
  · omega
  · by_cases hroom : l.length + m.length ≤ cap
    · have hr2 := run_append_room (P := Try.prog) w 23 ty 5 i0 Try.underlying23 hi0 g l.length cap cur hg ad m.length c (m.map bv) (by rw [hz1]; simp) hnews h1 hroom (by rw [hz1]; simp; omega)
      rw [hr] at hr2
      injection hr2 with _ hw
      subst hw
      refine ⟨by simp, .inr ⟨g, cap, _, rfl, hbg, setRow_heap w g cur _ 5 _ hg, hnc, hcm, ?_, ?_⟩⟩
      · rw [hz1]
        simp only [List.size_toArray, List.length_append, List.length_take, List.length_drop, Array.length_toList, List.length_map]
        omega
      · rw [hz1, htake, List.append_assoc]
        exact List.take_left' (by simp)
    · refine ownsRow_blocks h fun k hk => ?_
      have e1 : k = g := by simpa [Value.ownBlock] using hk.symm
      subst e1
      have hlt := (Array.getElem?_eq_some_iff.1 hg).1
      have hr2 := run_append_grow (P := Try.prog) w 23 ty 5 i0 (.int .u8 0) Try.underlying23 hi0 hz0 ⟨k, 0, none⟩ l.length cap (l.map bv) (by rw [hz1]; simp) (h.cells (g := k) rfl) ad m.length c (m.map bv) (by rw [hz1]; simp) hnews (by omega) (by omega) (growslice_fits (by omega) (by rw [hz2]; omega))
      rw [hr] at hr2
      injection hr2 with _ hw
      subst hw
      exact Go.heap_alloc_old w.drew _ hlt
theorem lit_src (w : World) (l : List UInt8) (cs : Array Value) (h : cs = (l.map bv).toArray) : Src (w.alloc (.cells cs 5)) (some ⟨w.heap.size, 0, none⟩) l := by
  subst h
  refine .inr ⟨_, _, rfl, fun k c hk => ?_⟩
  rw [cell_of_row _ _ _ _ _ _ (heap_alloc_at w _), Nat.zero_add, List.getElem?_toArray, List.getElem?_map, hk]
  rfl
theorem known_l3 (w : World) : Calls Try.prog 10 #[.slice (some ⟨w.heap.size, 0, none⟩) 3 3] (w.alloc (.cells #[.int .u8 253, .int .u8 0, .int .u8 252] 5)) fun e w' => e = .returned (.tuple #[.int .u64 0, .int .i64 0, .int .i64 50]) ∧ Below w.heap.size w w' := by
  refine (get_any (some ⟨w.heap.size, 0, none⟩) [253, 0, 252] 3 _ (by decide) (by decide) (lit_src w [253, 0, 252] _ rfl)).mono ?_
  rintro e w' ⟨rfl, rfl⟩
  exact ⟨by rw [show getN [253, 0, 252] = (0, 0, 50) by decide +kernel]; rfl, below_new w _⟩
theorem known_l5 (w : World) : Calls Try.prog 10 #[.slice (some ⟨w.heap.size, 0, none⟩) 5 5] (w.alloc (.cells #[.int .u8 254, .int .u8 0, .int .u8 0, .int .u8 255, .int .u8 255] 5)) fun e w' => e = .returned (.tuple #[.int .u64 0, .int .i64 0, .int .i64 50]) ∧ Below w.heap.size w w' := by
  refine (get_any (some ⟨w.heap.size, 0, none⟩) [254, 0, 0, 255, 255] 5 _ (by decide) (by decide) (lit_src w [254, 0, 0, 255, 255] _ rfl)).mono ?_
  rintro e w' ⟨rfl, rfl⟩
  exact ⟨by rw [show getN [254, 0, 0, 255, 255] = (0, 0, 50) by decide +kernel]; rfl, below_new w _⟩
theorem known_l9 (w : World) : Calls Try.prog 10 #[.slice (some ⟨w.heap.size, 0, none⟩) 9 9] (w.alloc (.cells #[.int .u8 255, .int .u8 0, .int .u8 0, .int .u8 0, .int .u8 0, .int .u8 255, .int .u8 255, .int .u8 255, .int .u8 255] 5)) fun e w' => e = .returned (.tuple #[.int .u64 0, .int .i64 0, .int .i64 50]) ∧ Below w.heap.size w w' := by
  refine (get_any (some ⟨w.heap.size, 0, none⟩) [255, 0, 0, 0, 0, 255, 255, 255, 255] 9 _ (by decide) (by decide) (lit_src w [255, 0, 0, 0, 0, 255, 255, 255, 255] _ rfl)).mono ?_
  rintro e w' ⟨rfl, rfl⟩
  exact ⟨by rw [show getN [255, 0, 0, 0, 0, 255, 255, 255, 255] = (0, 0, 50) by decide +kernel]; rfl, below_new w _⟩
theorem known_r4 (w : World) : Calls Try.prog 19 #[.slice (some ⟨w.heap.size, 0, none⟩) 4 4] (w.alloc (.cells #[.int .u8 2, .int .u8 0, .int .u8 2, .int .u8 0] 5)) fun e w' => ∃ v, e = .returned (.tuple #[v, .int .i64 50]) ∧ Below w.heap.size w w' := by
  refine (records_any (some ⟨w.heap.size, 0, none⟩) 4 [2, 0, 2, 0] _ (by decide) (by decide) (lit_src w [2, 0, 2, 0] _ rfl) (fun h => by cases h)).mono ?_
  rintro e w' ⟨v, rfl, h1, h2⟩
  exact ⟨v, by rw [show recordsN [2, 0, 2, 0] = ([], 50) by kernel_rfl]; rfl, (below_new w _).trans (h2.mono (by simp))⟩
theorem known_r3 (w : World) : Calls Try.prog 19 #[.slice (some ⟨w.heap.size, 0, none⟩) 3 3] (w.alloc (.cells #[.int .u8 1, .int .u8 2, .int .u8 7] 5)) fun e w' => ∃ v, e = .returned (.tuple #[v, .int .i64 51]) ∧ Below w.heap.size w w' := by
  refine (records_any (some ⟨w.heap.size, 0, none⟩) 3 [1, 2, 7] _ (by decide) (by decide) (lit_src w [1, 2, 7] _ rfl) (fun h => by cases h)).mono ?_
  rintro e w' ⟨v, rfl, h1, h2⟩
  exact ⟨v, by rw [show recordsN [1, 2, 7] = ([], 51) by kernel_rfl]; rfl, (below_new w _).trans (h2.mono (by simp))⟩
theorem known_r10 (w : World) : Calls Try.prog 19 #[.slice (some ⟨w.heap.size, 0, none⟩) 10 10] (w.alloc (.cells #[.int .u8 1, .int .u8 255, .int .u8 255, .int .u8 255, .int .u8 255, .int .u8 255, .int .u8 255, .int .u8 255, .int .u8 255, .int .u8 255] 5)) fun e w' => ∃ v, e = .returned (.tuple #[v, .int .i64 51]) ∧ Below w.heap.size w w' := by
  refine (records_any (some ⟨w.heap.size, 0, none⟩) 10 [1, 255, 255, 255, 255, 255, 255, 255, 255, 255] _ (by decide) (by decide) (lit_src w [1, 255, 255, 255, 255, 255, 255, 255, 255, 255] _ rfl) (fun h => by cases h)).mono ?_
  rintro e w' ⟨v, rfl, h1, h2⟩
  exact ⟨v, by rw [show recordsN [1, 255, 255, 255, 255, 255, 255, 255, 255, 255] = ([], 51) by kernel_rfl]; rfl, (below_new w _).trans (h2.mono (by simp))⟩
def AT : List Nat := [0, 252, 253, 254, 65535, 65536, 4294967295, 4294967296, 18446744073709551615]
def LG : List Nat := [1, 1, 3, 3, 3, 5, 5, 9, 9]
theorem at_facts : ∀ i : Fin 9, ∃ x y, AT[i.1]? = some x ∧ LG[i.1]? = some y ∧ (putN x).length = y ∧ x < 18446744073709551616 ∧ getN ((putN x).take (y - 1)) = (0, 0, 51) := by
  intro i
  match i with
  | 0 => exact ⟨_, _, rfl, rfl, by decide +kernel, by decide +kernel, by decide +kernel⟩
  | 1 => exact ⟨_, _, rfl, rfl, by decide +kernel, by decide +kernel, by decide +kernel⟩
  | 2 => exact ⟨_, _, rfl, rfl, by decide +kernel, by decide +kernel, by decide +kernel⟩
  | 3 => exact ⟨_, _, rfl, rfl, by decide +kernel, by decide +kernel, by decide +kernel⟩
  | 4 => exact ⟨_, _, rfl, rfl, by decide +kernel, by decide +kernel, by decide +kernel⟩
  | 5 => exact ⟨_, _, rfl, rfl, by decide +kernel, by decide +kernel, by decide +kernel⟩
  | 6 => exact ⟨_, _, rfl, rfl, by decide +kernel, by decide +kernel, by decide +kernel⟩
  | 7 => exact ⟨_, _, rfl, rfl, by decide +kernel, by decide +kernel, by decide +kernel⟩
  | 8 => exact ⟨_, _, rfl, rfl, by decide +kernel, by decide +kernel, by decide +kernel⟩
/-- the records of a row of 64 -/
def upTo (n : Nat) : List Rec := (List.range n).map fun k => ⟨k, []⟩
theorem upTo_succ (n : Nat) : upTo (n + 1) = upTo n ++ [⟨n, []⟩] := by simp [upTo, List.range_succ]
theorem upTo_len (n : Nat) : (upTo n).length = n := by simp [upTo]
theorem upTo_stream : streamN (upTo 64) = (encAll (upTo 64), 0) := by
  have h1 : (upTo 64).length = 64 := upTo_len 64
  have h2 : rising (upTo 64) = true := by decide +kernel
  have h3 : (encAll (upTo 64)).length = 128 := by decide +kernel
  unfold streamN
  rw [if_neg (by omega), h2, if_neg (by decide), if_neg (by omega)]
theorem upTo_enc : (encAll (upTo 64)).length = 128 := by decide +kernel
theorem upTo_records : recordsN (encAll (upTo 64)) = (upTo 64, 0) := by
  have h := records_stream (upTo 64) (by rw [upTo_stream]) (fun r hr => by
    obtain ⟨k, hk, rfl⟩ := List.mem_map.1 hr
    have := List.mem_range.1 hk
    show k < _; omega)
  rw [upTo_stream] at h
  exact h
theorem upTo_more : (recordsN (encAll (upTo 64) ++ [99, 0])).2 = 3 := by decide +kernel
theorem upTo_less : (recordsN (encAll (upTo 64) ++ [0, 0])).2 = 50 := by decide +kernel
theorem upTo_over : streamN (upTo 64 ++ [⟨99, []⟩]) = ([], 3) := by
  unfold streamN
  rw [if_pos (by rw [List.length_append, upTo_len]; decide)]
theorem one_len (b : List UInt8) : (encAll [⟨1, b⟩]).length = (putN 1).length + (putN b.length).length + b.length := by
  have e : encAll [⟨1, b⟩] = putN 1 ++ putN b.length ++ b := by simp [encAll, Rec.enc]
  rw [e, List.length_append, List.length_append]
theorem big_stream (b : List UInt8) (hb : b.length = 32764) : streamN [⟨1, b⟩] = (encAll [⟨1, b⟩], 0) ∧ (encAll [⟨1, b⟩]).length = 32768 := by
  have h1 : (encAll [⟨1, b⟩]).length = 32768 := by rw [one_len, hb]; decide +kernel
  refine ⟨?_, h1⟩
  unfold streamN
  rw [if_neg (by simp), if_neg (by simp [rising]), if_neg (by omega)]
theorem bigger_stream (b : List UInt8) (hb : b.length = 32765) : streamN [⟨1, b⟩] = ([], 3) := by
  have h1 : (encAll [⟨1, b⟩]).length = 32769 := by rw [one_len, hb]; decide +kernel
  unfold streamN
  rw [if_neg (by simp), if_neg (by simp [rising]), if_pos (by omega)]
theorem OwnRecs.recs' {w : World} {base n c : Nat} {a : Option Addr} {L : List Rec} (h : OwnRecs w base (.slice a n c) L) : Recs w a L := by
  obtain ⟨a', c', hv, h2, _⟩ := h.recs
  cases hv; exact h2
theorem wpList_app_keep {ops : Array Oper} {rest : List Oper} {o : Oper} {a : Act} {w : World} {Q : Exit → Act → World → Prop} (hgd : o.guard = none) (s x : Operand)
    (ho : o.op = .call { callee := .builtin .append, args := #[s, x], argTypes := #[23, 23] }) (base : Nat) (v : Value) (l : List UInt8) (hsv : a.eval s = v) (hown : Byt w base v l)
    (ad : Addr) (m : List UInt8) (k : Nat) (hk : m.length = k) (c : Nat) (hx : a.eval x = .slice (some ad) k c) (hs : Src w (some ad) m) (hn : l.length + m.length ≤ 140737488355328) (hpos : 0 < l.length) (hm : 0 < m.length) (hbase : base ≤ w.heap.size)
    (h : ∀ v' w', Byt w' base v' (l ++ m) → w.grownBy w' v.ownBlock → Byt w' base v l → wpList Try.prog ops Q rest (a.put o.dst v') w') : wpList Try.prog ops Q (o :: rest) a w :=
  wpList_plain hgd fun _ hK => by
    subst hk
    obtain ⟨v', w', hrun, h2, h3, h4⟩ := app_keep w base v l hown ad m c hs hn hpos hm hbase o.type
    unfold Oper.wp execOp
    simp only [ho, resolve, invoke, builtin, Sem.run_bind, Sem.run_pure, Result.andThen_ok, List.map_toArray, List.map_cons, List.map_nil, hsv, hx, hrun]
    exact hK _ _ (h v' w' h2 h3 h4)
theorem upTo_t : ∀ r ∈ upTo 64, r.t < 18446744073709551616 := fun r hr => by
  obtain ⟨k, hk, rfl⟩ := List.mem_map.1 hr
  have := List.mem_range.1 hk
  show k < _; omega
theorem upTo_b : ∀ r ∈ upTo 64, r.body.length ≤ 140737488355328 := fun r hr => by
  obtain ⟨k, hk, rfl⟩ := List.mem_map.1 hr
  simp
theorem known_stream (X : List UInt8) (hX : encAll (upTo 64) = X) (a : Option Addr) (c : Nat) (w : World) (hr : Recs w a (upTo 64)) : Calls Try.prog 17 #[.slice a 64 c] w fun e w' => ∃ g c', e = .returned (.tuple #[.slice (some ⟨g, 0, none⟩) 128 c', .int .i64 0]) ∧ Byt w' w.heap.size (.slice (some ⟨g, 0, none⟩) 128 c') X ∧ 128 ≤ c' ∧ c' ≤ maxLen ∧ Below w.heap.size w w' := by
  have h := stream_any a c (upTo 64) w (by rw [upTo_len]; decide) hr upTo_t upTo_b
  rw [upTo_len] at h
  refine h.mono ?_
  rintro e w' ⟨v, rfl, h1, h2⟩
  rw [upTo_stream] at h1 ⊢
  have he := upTo_enc
  simp only at h1
  rw [hX] at h1 he
  obtain ⟨g, c', rfl, hc, hm, _, _⟩ := byt_pos h1 (by intro e; rw [e] at he; simp at he)
  rw [he] at h1 hc ⊢
  exact ⟨g, c', rfl, h1, hc, hm, h2⟩
theorem known_recs (X : List UInt8) (hX : encAll (upTo 64) = X) (g c : Nat) (w : World) (hs : Src w (some ⟨g, 0, none⟩) X) (hc : 128 ≤ c) (hm : c ≤ maxLen) : Calls Try.prog 19 #[.slice (some ⟨g, 0, none⟩) 128 c] w fun e w' => ∃ ma mc, e = .returned (.tuple #[.slice ma 64 mc, .int .i64 0]) ∧ Below w.heap.size w w' := by
  have he := upTo_enc
  rw [hX] at he
  have hR := upTo_records
  rw [hX] at hR
  refine (records_ad (some ⟨g, 0, none⟩) c 128 X he w hc hm hs (fun h => by cases h) (upTo 64) 0 64 hR (upTo_len 64)).mono ?_
  rintro e w' ⟨ma, mc, rfl, _, h2⟩
  exact ⟨ma, mc, rfl, h2⟩
theorem known_err (X : List UInt8) (n : Nat) (hn : X.length = n) (k : Nat) (hk : (recordsN X).2 = k) (g c : Nat) (w : World) (hs : Src w (some ⟨g, 0, none⟩) X) (hc : n ≤ c) (hm : c ≤ maxLen) : Calls Try.prog 19 #[.slice (some ⟨g, 0, none⟩) n c] w fun e w' => ∃ v, e = .returned (.tuple #[v, .int .i64 (k : Int)]) ∧ Below w.heap.size w w' := by
  subst hn hk
  refine (records_any (some ⟨g, 0, none⟩) c X w hc hm hs (fun h => by cases h)).mono ?_
  rintro e w' ⟨v, rfl, _, h2⟩
  exact ⟨v, rfl, h2⟩
theorem known_over (a : Option Addr) (c : Nat) (w : World) : Calls Try.prog 17 #[.slice a 65 c] w fun e w' => ∃ v, e = .returned (.tuple #[v, .int .i64 3]) ∧ Below w.heap.size w w' := by
  have h := stream_many a c (upTo 64 ++ [⟨99, []⟩]) w (by rw [List.length_append, upTo_len]; decide) (by rw [List.length_append, upTo_len]; decide)
  rw [List.length_append, upTo_len] at h
  refine h.mono ?_
  rintro e w' ⟨v, rfl, _, h2⟩
  rw [upTo_over]
  exact ⟨v, rfl, h2⟩
theorem byt_keep {w1 w2 : World} {base b0 m c0 : Nat} {a0 : Option Addr} {L : List Rec} {o : Obj} {v : Value} {l : List UInt8} (h : Byt w1 b0 v l) (h2 : OwnRecs w1 base (.slice a0 m c0) L) (hg : (w1.alloc o).grownBy w2 (Value.slice a0 m c0).ownBlock) : Byt w2 b0 v l := by
  obtain ⟨bs, _, h2, _⟩ := h2
  refine ownsRow_blocks h fun k hk => ?_
  have hk1 := (h.lt k hk).2
  have hne : some k ≠ (Value.slice a0 m c0).ownBlock := fun e => by
    rcases h.2 with ⟨hv, _⟩ | ⟨g1, _, cur1, hv, _, hh1, _⟩
    · rw [hv] at hk; cases hk
    · rcases h2.2 with ⟨hv2, _⟩ | ⟨g2, _, cur2, hv2, _, hh2, _⟩
      · rw [hv2] at e; cases e
      · rw [hv2] at e; rw [hv] at hk
        simp only [Value.ownBlock, Option.some.injEq] at e hk
        rw [hk, e] at hh1; rw [hh1] at hh2
        injection hh2 with hh2; injection hh2 with _ hh2; revert hh2; decide
  exact (hg.block k (by simp; omega) hne).trans ((below_new w1 o).block k hk1)
theorem byt_at {w : World} {base n : Nat} {v : Value} {l : List UInt8} (h : Byt w base v l) (hn : l.length = n) (h0 : 0 < n) : ∃ g c, v = .slice (some ⟨g, 0, none⟩) n c ∧ Src w (some ⟨g, 0, none⟩) l ∧ n ≤ c ∧ c ≤ maxLen := by
  subst hn
  obtain ⟨g, c, rfl, hc, hm, _, _⟩ := byt_pos h (List.length_pos_iff.1 h0)
  exact ⟨g, c, rfl, Src.of_byt h, hc, hm⟩
theorem made_bytes (n : Nat) : (madeCells (Value.int .u8 0).cells (n * 1)).toList = (List.replicate n (0 : UInt8)).map bv := by
  rw [Nat.mul_one]
  apply List.ext_getElem
  · simp [madeCells]
  · intro i h1 h2
    simp [madeCells, Value.cells, bv, Nat.mod_one]
theorem make_fun (n : Nat) (hn : n ≤ 40000) : ∃ F : World → World, (∀ w, (Instr.makeSlice 23 (.int .i64 (n : Int)) (.int .i64 (n : Int))).run Try.prog w = .ok (.slice (some ⟨w.heap.size, 0, none⟩) n n) (F w)) ∧ Hid (∀ w, Src (F w) (some ⟨w.heap.size, 0, none⟩) (List.replicate n 0) ∧ Below w.heap.size w (F w)) := by
  obtain ⟨i0, hi0, hz0, hz1, hz2⟩ := info_parts Try.info5
  have h := fun w : World => run_make_full (P := Try.prog) w w.heap.size 23 5 i0 (.int .u8 0) 1 Try.underlying23 hi0 hz0 hz1 .i64 .i64 n (by rw [hz2]; omega) (by unfold maxLen; omega) (Nat.le_refl _)
  refine ⟨fun w => (h w).choose, fun w => (h w).choose_spec.1, fun w => ?_⟩
  obtain ⟨_, h2, h3⟩ := (h w).choose_spec
  refine ⟨?_, below_grown h3 rfl⟩
  have hB : Byt (h w).choose w.heap.size (.slice (some ⟨w.heap.size, 0, none⟩) n n) (List.replicate n 0) := byt_of' h2 (made_bytes n)
  exact Src.of_byt hB
theorem make_32768 : ∃ F : World → World, (∀ w, (Instr.makeSlice 23 (.int .i64 32768) (.int .i64 32768)).run Try.prog w = .ok (.slice (some ⟨w.heap.size, 0, none⟩) 32768 32768) (F w)) ∧ Hid (∀ w, Src (F w) (some ⟨w.heap.size, 0, none⟩) (List.replicate 32768 0) ∧ Below w.heap.size w (F w)) := make_fun 32768 (by omega)
theorem make_32769 : ∃ F : World → World, (∀ w, (Instr.makeSlice 23 (.int .i64 32769) (.int .i64 32769)).run Try.prog w = .ok (.slice (some ⟨w.heap.size, 0, none⟩) 32769 32769) (F w)) ∧ Hid (∀ w, Src (F w) (some ⟨w.heap.size, 0, none⟩) (List.replicate 32769 0) ∧ Below w.heap.size w (F w)) := make_fun 32769 (by omega)
theorem known_one (n nb E : Nat) (b B : List UInt8) (hb : b.length = n) (hn : n ≤ 40000) (hS : streamN [⟨1, b⟩] = (B, E)) (hB : B.length = nb) (W : World) (g c : Nat) (hs : Src W (some ⟨g, 0, none⟩) b) (hc : n ≤ c) (hm : c ≤ maxLen) :
    Calls Try.prog 17 #[.slice (some ⟨W.heap.size, 0, none⟩) 1 1] (W.alloc (.cells #[.int .u64 1, .slice (some ⟨g, 0, none⟩) n c] 39)) fun e w' => ∃ va vc, e = .returned (.tuple #[.slice va nb vc, .int .i64 (E : Int)]) ∧ Below W.heap.size W w' := by
  subst hb hB
  have hc2 := cell2 W (.int .u64 1) (.slice (some ⟨g, 0, none⟩) b.length c) 39
  have hR : Recs (W.alloc (.cells #[.int .u64 1, .slice (some ⟨g, 0, none⟩) b.length c] 39)) (some ⟨W.heap.size, 0, none⟩) [⟨1, b⟩] := .inr ⟨_, _, rfl, fun k r hk => by
    match k, hk with
    | 0, hk => cases hk; exact ⟨_, c, hc2.1, hc2.2, hs.below (below_new W _), hc, hm, fun e => by cases e⟩⟩
  refine (stream_ad (some ⟨W.heap.size, 0, none⟩) 1 1 [⟨1, b⟩] rfl _ (by unfold maxLen; simp) hR (fun r hr => by simp at hr; subst hr; show 1 < _; omega) (fun r hr => by simp at hr; subst hr; show b.length ≤ _; omega) B E B.length hS rfl).mono ?_
  rintro e w' ⟨va, vc, rfl, _, _, _, _, h2⟩
  exact ⟨va, vc, rfl, (below_new W _).trans (h2.mono (by simp))⟩
theorem known_long (a : Option Addr) (c : Nat) (w : World) : Calls Try.prog 19 #[.slice a 32769 c] w fun e w' => ∃ v, e = .returned (.tuple #[v, .int .i64 3]) ∧ Below w.heap.size w w' := by
  obtain ⟨l, hl⟩ : ∃ l : List UInt8, l.length = 32769 := ⟨List.replicate 32769 0, List.length_replicate⟩
  have h := records_much a c l w (by omega) (by rw [hl]; decide)
  have hR : (recordsN l).2 = 3 := by unfold recordsN; rw [if_pos (by omega)]
  rw [hl] at h
  refine h.mono ?_
  rintro e w' ⟨v, rfl, _, h2⟩
  rw [hR]
  exact ⟨v, rfl, h2⟩
def qL : List Rec := [⟨1, []⟩, ⟨4, []⟩, ⟨5, []⟩]
theorem q_recs (W : World) : Recs (W.alloc (.cells #[.int .u64 1, .slice none 0 0, .int .u64 4, .slice none 0 0, .int .u64 5, .slice none 0 0] 39)) (some ⟨W.heap.size, 0, none⟩) qL := .inr ⟨_, _, rfl, fun k r hk => by
  have h := heap_alloc_at W (.cells #[.int .u64 1, .slice none 0 0, .int .u64 4, .slice none 0 0, .int .u64 5, .slice none 0 0] 39)
  match k, hk with
  | 0, hk => cases hk; exact ⟨none, 0, by rw [cell_of_row _ _ _ _ _ _ h]; rfl, by rw [cell_of_row _ _ _ _ _ _ h]; rfl, .inl rfl, Nat.le_refl _, Nat.zero_le _, fun _ => rfl⟩
  | 1, hk => cases hk; exact ⟨none, 0, by rw [cell_of_row _ _ _ _ _ _ h]; rfl, by rw [cell_of_row _ _ _ _ _ _ h]; rfl, .inl rfl, Nat.le_refl _, Nat.zero_le _, fun _ => rfl⟩
  | 2, hk => cases hk; exact ⟨none, 0, by rw [cell_of_row _ _ _ _ _ _ h]; rfl, by rw [cell_of_row _ _ _ _ _ _ h]; rfl, .inl rfl, Nat.le_refl _, Nat.zero_le _, fun _ => rfl⟩⟩
theorem known_u (k : Int) (b : Bool) (hb : unkN [k] qL = b) (W : World) (q : Nat) (hq : Recs W (some ⟨q, 0, none⟩) qL) :
    Calls Try.prog 21 #[.slice (some ⟨q, 0, none⟩) 3 3, .slice (some ⟨W.heap.size, 0, none⟩) 1 1] (W.alloc (.cells #[.int .u64 k] 22)) fun e w' => e = .returned (.bool b) ∧ Below W.heap.size W w' := by
  have h := unknown_any (some ⟨W.heap.size, 0, none⟩) 1 [k] (some ⟨q, 0, none⟩) 3 qL (W.alloc (.cells #[.int .u64 k] 22)) (by decide) (by simp) (hq.below (below_new W _)) (.inr ⟨_, _, rfl, fun j x hj => by
    match j, hj with
    | 0, hj => cases hj; exact cell1 W _ _⟩)
  rw [hb] at h
  refine h.mono ?_
  rintro e w' ⟨rfl, h2⟩
  exact ⟨rfl, (below_new W _).trans (h2.mono (by simp))⟩
theorem known_v (b : Bool) (L : List Rec) (n : Nat) (hn : L.length = n) (hL : L.length ≤ 3000) (hb : unkN [] L = b) (W : World) (a : Option Addr) (c : Nat) (hq : Recs W a L) :
    Calls Try.prog 21 #[.slice a n c, .slice none 0 0] W fun e w' => e = .returned (.bool b) ∧ Below W.heap.size W w' := by
  subst hn
  have h := unknown_any none 0 [] a c L W hL (by simp) hq (.inl rfl)
  rw [hb] at h
  exact h
end Go.Proofs.Ytcdeggocnaodiaa
