/- route: a row appended; the document's small functions -/
import Derived.StillTailTactics
import Derived.Lib.ParseIntB
import Derived.Lib.Bytealg
import Derived.Lib.ItoaNum
import Derived.Lib.ParseIntBCases
import Derived.Shelf.Strings.Builder1
import Derived.Shelf.Small.Bits
import Derived.Shelf.Small.Strs
import Derived.Shelf.Small.Wraps
import Derived.Shelf.Strings.BuilderF
import Derived.Shelf.Strings.BuilderK
import Derived.Shelf.Strconv.Itoa0
import Derived.Shelf.Strconv.Itoa1
import Derived.Shelf.LaysM
import Derived.Shelf.Strconv.Itoa2
import Derived.Shelf.Strconv.Itoa3
import Derived.Shelf.Strconv.Itoa4
import Derived.Shelf.Strconv.ParseIntEmpty
import Derived.Shelf.Strconv.Clone
import Derived.Shelf.Strconv.SyntaxError
import Derived.Shelf.LaysC
import Derived.Shelf.Strconv.ToError
import Derived.Shelf.Strconv.Lower
import Derived.Shelf.Strconv.ParseUint10
import Derived.Shelf.Strconv.ParseUint10Empty
import Derived.Shelf.Strconv.ParseUint10Any
import Derived.Shelf.Strconv.ParseInt10
import Derived.Shelf.Strconv.RangeError
import Derived.Shelf.Strconv.ToErrorRange
import Derived.Shelf.Strconv.ParseUintEmpty
import Derived.Shelf.Strconv.ParseUint10b64
import Derived.Shelf.Strconv.ParseUint10b32
import Derived.Shelf.Strconv.ParseUint10b16
import Derived.Shelf.Strconv.ParseUint10b8
import Derived.Shelf.Strconv.ParseUint10At
import Derived.Shelf.Strconv.ParseInt10At64
import Derived.Shelf.Strconv.ParseInt10At32
import Derived.Shelf.Strconv.ParseInt10At16
import Derived.Shelf.Strconv.ParseInt10At8
import Derived.Shelf.Strconv.ParseInt10All
import Derived.Shelf.Strconv.ParseIntPublic10
import Derived.Shelf.Strconv.ErrVarParseInt
import Derived.Shelf.Strings.Search1
import Derived.Shelf.Bits.Mul64
import Derived.Shelf.Strings.BuilderCap
import Derived.Ground.Names2Prog
import Derived.Shelf.Slices.Clone
import Derived.Shelf.Slices.SearchI
import Derived.Ground.SlgnProg
import Derived.Shelf.SlicesE.Clone
import Derived.WalkKit
import Derived.WalkSpells
import Derived.WalkLawsBesides
import Derived.Handy
import Derived.Lib.Hide
import Derived.Deep.QuietTactic
import Derived.BigQuiet
import Derived.Deep.RegionHeld3
import Derived.Lib.Strings
import Derived.Lib.IndexBytes
import Derived.BigRegion
import Derived.Deep.RegionLaw
import Derived.Deep.AppendLies
import Derived.Deep.LoopGhost
import Derived.Deep.Onto
import Derived.Deep.WholeRow
import Derived.Deep.CutRange
import Derived.Laws.CopyOwn
import Derived.Lib.ItoaLen
import Derived.Lib.AppendIntMem
import Derived.Deep.CutBlock
import Derived.Deep.MidRow
import Derived.Deep.RegionHeld
import Derived.Outline
import Derived.Laws.Tables
import Derived.Laws.MakeOwn
import Derived.Laws.OwnMore
import Derived.WalkMore
import Derived.MapKept
import Derived.Carry
import Derived.Test.YtbdimlppnhcicaaGreatDoorRows
import Derived.Test.YtbdimlppnhcicaaGreatDoorProg
import Derived.Test.YtbdimlppnhcicaaGreatDoorNu
import Derived.Test.YtbdimlppnhcicaaGreatDoorTa
import Derived.Test.YtbdimlppnhcicaaGreatDoorTl
import Derived.Test.YtbdimlppnhcicaaGreatDoorRg
import Derived.Test.YtbdimlppnhcicaaGreatDoorBa
import Derived.Test.YtbdimlppnhcicaaGreatDoorVa
import Derived.Test.YtbdimlppnhcicaaGreatDoorWg
import Derived.Test.YtbdimlppnhcicaaGreatDoorSo
import Derived.Test.YtbdimlppnhcicaaGreatDoorOnA
import Derived.Test.YtbdimlppnhcicaaGreatDoorOb
import Derived.Test.YtbdimlppnhcicaaGreatDoorOe
import Derived.Test.YtbdimlppnhcicaaGreatDoorRo1
import Derived.Test.YtbdimlppnhcicaaGreatDoorOf
import Derived.Test.YtbdimlppnhcicaaGreatDoorOh
import Derived.Test.YtbdimlppnhcicaaGreatDoorOj
import Derived.Test.YtbdimlppnhcicaaGreatDoorRo2
import Derived.Test.YtbdimlppnhcicaaGreatDoorRo3
import Derived.Test.YtbdimlppnhcicaaGreatDoorRo4
import Derived.Test.YtbdimlppnhcicaaGreatDoorRo5
namespace Go.Proofs.YtbdimlppnhcicaaGreatDoor
set_option linter.unusedVariables false
open Go.RowKit Rte
/-! route: a row appended to an own one -/
theorem run_append_no (P : Program) (w : World) (t ty e : TypeId) (i : TypeInfo) (ht : P.underlying t = some (.slice e)) (hi : P.info? e = some i) (a : Option Addr) (n k c : Nat) (hk : n ≤ k) :
    (Builtin.append_ #[t, t] ty #[.slice a n k, .slice none 0 c]).run P w = .ok (.slice a n k) w := by
  cases a <;> simp [Builtin.append_, run_underlying ht, sizeOf, typeInfo, hi, Builtin.lenOf, Builtin.firstCells, hk, storeCells, loadCells, Result.andThen]
theorem own_cap {w : World} {base E size n m k : Nat} {a : Option Addr} {xs : List Value} (h : w.ownsRow base E size (.slice a m k) n xs) : m = n ∧ m ≤ k := by
  rcases h.2 with ⟨h1, rfl⟩ | ⟨g, cap, cur, h1, _, _, h2, _⟩
  · cases h1; exact ⟨rfl, Nat.le_refl _⟩
  · cases h1; exact ⟨rfl, h2⟩
theorem app_rows_run {α : Type} {cells : α → List Value} {n : Nat} (hn : ∀ x, (cells x).length = n) (h1 : ∀ x, ∀ u ∈ cells x, u.oneCell' = true) (P : Program) (w : World) (base : Nat) (t ty e : TypeId) (i : TypeInfo) (z : Value) (bytes : Nat) (ht : P.underlying t = some (.slice e)) (hi : P.info? e = some i) (hz : i.zero = some z)
    (hsize : i.size = n) (hby : i.bytes = bytes) (hzs : z.cells.size = n) (hsz : 0 < n)
    (a : Option Addr) (m k : Nat) (xs : List Value) (hown : w.ownsRow base e n (.slice a m k) m xs) (o : Option Addr) (l : List α) (c : Nat) (hl : RowsAt n cells o l w) (h63 : m + l.length ≤ maxLen) (hbytes : (m + l.length) * bytes ≤ 140737488355328) (hbase : base ≤ w.heap.size) :
    ∃ a' k' w', (Builtin.append_ #[t, t] ty #[.slice a m k, .slice o l.length c]).run P w = .ok (.slice a' (m + l.length) k') w' ∧ w'.ownsRow base e n (.slice a' (m + l.length) k') (m + l.length) (xs ++ l.flatMap cells) ∧ w.grownBy w' (Value.ownBlock (.slice a m k)) := by
  cases o with
  | none =>
    obtain rfl : l = [] := by
      rcases hl with h | ⟨_, _, h, _⟩
      · exact h
      · cases h
    refine ⟨a, k, w, ?_, ?_, ⟨rfl, rfl, rfl, Nat.le_refl _, fun _ _ _ => rfl⟩⟩
    · simpa using run_append_no P w t ty e i ht hi a m k c (own_cap hown).2
    · simpa using hown
  | some ad =>
    have hnews : ∀ j u, (l.flatMap cells)[j]? = some u → w.cell? (ad.add j) = some u := by
      intro j u hu
      obtain ⟨q, x, r, e1, e2, rfl⟩ := flat_at cells n hn l j u hu
      obtain ⟨b, off, e3, e4⟩ := rows_at hl e1
      cases e3
      rw [Addr.add_lit, ← Nat.add_assoc]
      exact e4 r u e2
    obtain ⟨v', w', hrun, h2, h3, _, _⟩ := run_append_own_at (P := P) w base t ty e i z n bytes ht hi hz hsize hby hzs hsz (.slice a m k) m xs hown ad l.length c (l.flatMap cells) (flat_len cells n hn l) hnews (by
      intro u hu
      obtain ⟨x, hx, hux⟩ := List.mem_flatMap.1 hu
      exact h1 x u hux) h63 hbytes hbase
    obtain ⟨a', k', rfl⟩ := own_slice h2
    exact ⟨a', k', w', hrun, h2, h3⟩
theorem wpList_app_rows {P : Program} {w : World} {ops : Array Oper} {rest : List Oper} {op : Oper} {ac : Act} {Q : Exit → Act → World → Prop} (hgd : op.guard = none) {α : Type} {cells : α → List Value} {n : Nat} (hn : ∀ x, (cells x).length = n) (h1 : ∀ x, ∀ u ∈ cells x, u.oneCell' = true) (s x : Operand) (t : TypeId)
    (ho : op.op = .call { callee := .builtin .append, args := #[s, x], argTypes := #[t, t] })
    (base : Nat) (e : TypeId) (i : TypeInfo) (z : Value) (bytes : Nat) (ht : P.underlying t = some (.slice e)) (hi : P.info? e = some i) (hz : i.zero = some z)
    (hsize : i.size = n) (hby : i.bytes = bytes) (hzs : z.cells.size = n) (hsz : 0 < n)
    (a : Option Addr) (m k : Nat) (xs : List Value) (hsv : ac.eval s = .slice a m k) (hown : w.ownsRow base e n (.slice a m k) m xs) (o : Option Addr) (l : List α) (c : Nat) (hx : ac.eval x = .slice o l.length c) (hl : RowsAt n cells o l w) (h63 : m + l.length ≤ maxLen) (hbytes : (m + l.length) * bytes ≤ 140737488355328) (hbase : base ≤ w.heap.size)
    (h : ∀ a' k' w', w'.ownsRow base e n (.slice a' (m + l.length) k') (m + l.length) (xs ++ l.flatMap cells) → w.grownBy w' (Value.ownBlock (.slice a m k)) → wpList P ops Q rest (ac.put op.dst (.slice a' (m + l.length) k')) w') : wpList P ops Q (op :: rest) ac w :=
  wpList_plain hgd fun _ hK => by
    obtain ⟨a', k', w', hrun, h2, h3⟩ := app_rows_run hn h1 P w base t op.type e i z bytes ht hi hz hsize hby hzs hsz a m k xs hown o l c hl h63 hbytes hbase
    unfold Oper.wp execOp
    simp only [ho, resolve, invoke, builtin, Sem.run_bind, Sem.run_pure, Result.andThen_ok, List.map_toArray, List.map_cons, List.map_nil, hsv, hx, hrun]
    exact hK _ _ (h a' k' w' h2 h3)
/-! route: the document's small functions -/
theorem time_any (n : Int) (w : World) : Calls Tryz.prog 140 #[.int .i64 n] w fun e w' => e = .returned (.bool (timeB n)) ∧ w' = w := by
  by_cases h0 : 0 ≤ n
  · have d0 : decide (0 ≤ n) = true := decide_eq_true h0
    by_cases h1 : n < 2147483648
    · have d1 : decide (n < 2147483648) = true := decide_eq_true h1
      have hr : timeB n = true := (time_iff n).2 ⟨h0, h1⟩
      rw [hr]
      clear h0 h1
      go_enter Tryz.func140, Tryz.ntmps140
      go_wp2_with fail
      go_ret
      exact ⟨rfl, rfl⟩
    · have d1 : decide (n < 2147483648) = false := decide_eq_false h1
      have hr : timeB n = false := time_not (fun h => h1 ((time_iff n).1 h).2)
      rw [hr]
      clear h0 h1
      go_enter Tryz.func140, Tryz.ntmps140
      go_wp2_with fail
      go_ret
      exact ⟨rfl, rfl⟩
  · have d0 : decide (0 ≤ n) = false := decide_eq_false h0
    have hr : timeB n = false := time_not (fun h => h0 ((time_iff n).1 h).1)
    rw [hr]
    clear h0
    go_enter Tryz.func140, Tryz.ntmps140
    go_wp2_with fail
    go_ret
    exact ⟨rfl, rfl⟩
theorem op4_key (l : List UInt8) (h : (op4 l).op = 80) : (op4 l).b = true := by
  unfold op4 at h ⊢
  cases hx : readP l with
  | none => rw [hx] at h; cases h
  | some x => rfl
set_option maxRecDepth 100000 in
set_option maxHeartbeats 4000000 in
theorem dkey_any (t : ByteArray) (w : World) (hm : t.size ≤ maxLen) : Calls Tryz.prog 139 #[.string t] w fun e w' => e = .returned (.bool (isKey t)) ∧ Below w.heap.size w w' := by
  have HO := Lib.hid ((ropen_any t w hm).mono fun e w' h => one_form h)
  have HP : Hid (isKey t = decide ((op4 t.data.toList).op = 80)) := rfl
  have HB : Hid ((op4 t.data.toList).op = 80 → (op4 t.data.toList).b = true) := op4_key _
  generalize isKey t = r at HP ⊢
  generalize op4 t.data.toList = q at HO HP HB
  clear hm
  obtain ⟨op, n, u, vs, b⟩ := q
  dsimp only at HP HB
  by_cases hop : op = 80
  · subst hop
    obtain rfl : b = true := HB.out rfl
    obtain rfl : r = true := by rw [HP.out]; rfl
    go_enter Tryz.func139, Tryz.ntmps139
    go_wp2_with ((go_at_call 124; (with_reducible refine Calls.mono HO.out ?_); rintro e w1 ⟨hb1, o, k, rfl, -⟩; have B1 := Lib.hid hb1; clear hb1))
    go_ret
    exact ⟨by simp [go_sem], by repeat (first | exact B1.out | exact btr B1.out (below_new' _ _) | refine bdN ?_ _ | refine Below.drew ?_)⟩
  · obtain rfl : r = false := by rw [HP.out]; exact decide_eq_false hop
    have e1 : ((op : Int) == 80) = false := by simp; omega
    clear HB
    cases b with
    | true =>
      go_enter Tryz.func139, Tryz.ntmps139
      go_wp2_with ((go_at_call 124; (with_reducible refine Calls.mono HO.out ?_); rintro e w1 ⟨hb1, o, k, rfl, -⟩; have B1 := Lib.hid hb1; clear hb1))
      go_ret
      exact ⟨by simp [go_sem], by repeat (first | exact B1.out | exact btr B1.out (below_new' _ _) | refine bdN ?_ _ | refine Below.drew ?_)⟩
    | false =>
      go_enter Tryz.func139, Tryz.ntmps139
      go_wp2_with ((go_at_call 124; (with_reducible refine Calls.mono HO.out ?_); rintro e w1 ⟨hb1, o, k, rfl, -⟩; have B1 := Lib.hid hb1; clear hb1))
      go_ret
      exact ⟨by simp [go_sem], by repeat (first | exact B1.out | exact btr B1.out (below_new' _ _) | refine bdN ?_ _ | refine Below.drew ?_)⟩
set_option maxRecDepth 100000 in
set_option maxHeartbeats 4000000 in
theorem dhas_any (o : Option Addr) (l : List ByteArray) (c : Nat) (s : ByteArray) (w : World) (hl : StrsAt o l w) (hn : l.length ≤ 1000) : Calls Tryz.prog 141 #[.slice o l.length c, .string s] w fun e w' => e = .returned (.bool (decide (s ∈ l))) ∧ w' = w := by
  have HLL := Lib.hid hl
  have HN := Lib.hid hn
  obtain ⟨out, hout⟩ : ∃ o, decide (s ∈ l) = o := ⟨_, rfl⟩
  rw [hout]
  have HOUT := Lib.hid hout
  clear hl hn hout
  go_enter Tryz.func141, Tryz.ntmps141
  go_wp2_with fail
  go_loopw [5] (fun iv wr => ∃ i : Nat, i ≤ l.length ∧ iv = .int .i64 i ∧ Hid (s ∉ l.take i) ∧ wr = w) (fun iv _ => l.length - (intOf iv).toNat)
  case atStart => exact ⟨0, Nat.zero_le _, rfl, by show _ ∉ _; simp, rfl⟩
  case round =>
    obtain ⟨i, hi, rfl, hT, rfl⟩ := hrel
    have hi2 := HN.out
    by_cases hlt : i < l.length
    · obtain ⟨t, ht⟩ : ∃ t, l[i]? = some t := ⟨_, List.getElem?_eq_getElem hlt⟩
      obtain ⟨b, off, rfl, hc⟩ := HLL.out.resolve_left (by intro h; rw [h] at hlt; simp at hlt)
      have z0 := hc i t ht
      have hii : (i : Int) < (l.length : Int) := by omega
      have hii2 : (l.length : Int) ≤ 1000 := by omega
      by_cases hts : t = s
      · subst hts
        obtain rfl : out = true := by rw [← HOUT.out]; exact decide_eq_true (List.mem_of_getElem? ht)
        clear hc hi hi2 ht
        go_wp2_with fail
        go_ret
        exact ⟨rfl, rfl⟩
      · have q1 := toList_ne hts
        have HT2 : Hid (s ∉ l.take (i + 1)) := by
          show _ ∉ _
          rw [List.take_add_one, ht]
          intro h
          rcases List.mem_append.1 h with h | h
          · exact hT.out h
          · have h' : s = t := by simpa using h
            exact hts h'.symm
        clear hc hi hi2 ht hts
        go_wp2_with fail
        go_roundw
        case rel => exact ⟨i + 1, hlt, by rw [Int.natCast_succ], HT2.out, trivial⟩
        case measure => simp only [intOf]; omega
    · obtain rfl : i = l.length := by omega
      obtain rfl : out = false := by rw [← HOUT.out]; exact decide_eq_false (by have := hT.out; rwa [List.take_length] at this)
      clear hi hlt hi2
      go_wp2_with fail
      go_ret
      exact ⟨rfl, rfl⟩
set_option maxRecDepth 100000 in
set_option maxHeartbeats 4000000 in
theorem counts_any (oe : Option Addr) (E : List Edg) (ce i : Nat) (ob : Option Addr) (bad : List ByteArray) (cb : Nat) (w : World) (hi : i < E.length) (hE : RowsAt 4 edgC oe E w) (hB : StrsAt ob bad w) (hn : E.length ≤ 1000) (hb : bad.length ≤ 1000) :
    Calls Tryz.prog 82 #[.slice oe E.length ce, .int .i64 i, .slice ob bad.length cb] w fun e w' => e = .returned (.bool (countsB E bad i)) ∧ Below w.heap.size w w' := by
  obtain ⟨e, he⟩ : ∃ e, E[i]? = some e := ⟨_, List.getElem?_eq_getElem hi⟩
  have hcb : countsB E bad i = (decide (e.chan ∉ (E.take i).map (·.chan)) && decide (e.chan ∉ bad) && decide (e.a ≠ e.b)) := by unfold countsB; rw [he]
  obtain ⟨eb, eo, rfl, hc⟩ := rows_at hE he
  obtain ⟨ch, ea, ebb, cp⟩ := e
  dsimp only at hcb
  have HCB := Lib.hid hcb
  have z0 : w.cell? ⟨eb, eo + i * 4, none⟩ = some (.string ch) := hc 0 _ rfl
  have z1 : w.cell? ⟨eb, eo + i * 4 + 1, none⟩ = some (.string ea) := hc 1 _ rfl
  have z2 : w.cell? ⟨eb, eo + i * 4 + 2, none⟩ = some (.string ebb) := hc 2 _ rfl
  have HEE := Lib.hid hE
  have HBB := Lib.hid hB
  have hii : (i : Int) < (E.length : Int) := by omega
  have hii2 : (E.length : Int) ≤ 1000 := by omega
  have HII := Lib.hid hi
  have HHAS := Lib.hid (fun (W : World) (h : Below w.heap.size w W) => dhas_any ob bad cb ch W (by
    rcases hB with k | ⟨b, off, k1, k2⟩
    · exact .inl k
    · exact .inr ⟨b, off, k1, fun i s hi => cell_later' h (k2 i s hi)⟩) hb)
  obtain ⟨out, hout⟩ : ∃ o, countsB E bad i = o := ⟨_, rfl⟩
  rw [hout]
  rw [hout] at HCB
  clear hc hcb hE hB hi he hn hb hout
  go_enter Tryz.func82, Tryz.ntmps82
  go_wp2_with fail
  go_loopw [7] (fun kv wr => ∃ k : Nat, k ≤ i ∧ kv = .int .i64 k ∧ Hid (ch ∉ (E.take k).map (·.chan)) ∧ Hid (Below w.heap.size w wr)) (fun kv _ => i - (intOf kv).toNat)
  case atStart => exact ⟨0, Nat.zero_le _, rfl, by show _ ∉ _; simp, Below.refl _ _⟩
  case round =>
    obtain ⟨k, hk, rfl, hT, hB⟩ := hrel
    have y0 := cell_later' hB.out z0
    have y1 := cell_later' hB.out z1
    have y2 := cell_later' hB.out z2
    by_cases hlt : k < i
    · obtain ⟨x, hx⟩ : ∃ x, E[k]? = some x := ⟨_, List.getElem?_eq_getElem (by have := HII.out; omega)⟩
      obtain ⟨eb', eo', epe, hc'⟩ := rows_at HEE.out hx
      cases epe
      have x0 : wr.cell? ⟨eb, eo + k * 4, none⟩ = some (.string x.chan) := cell_later' hB.out (hc' 0 _ rfl)
      have hkk : (k : Int) < (i : Int) := by omega
      have hkk2 : (k : Int) < (E.length : Int) := by omega
      clear hc'
      by_cases hxc : x.chan = ch
      · have q1 : x.chan.toList = ch.toList := by rw [hxc]
        have HF : out = false := by
          rw [HCB.out]
          have : ¬ ch ∉ (E.take i).map (·.chan) := by
            intro h
            refine h (List.mem_map.2 ⟨x, ?_, hxc⟩)
            refine List.mem_of_getElem? (i := k) ?_
            rw [List.getElem?_take, if_pos hlt]; exact hx
          rw [decide_eq_false this]; rfl
        subst HF
        clear hx hxc
        go_wp2_with fail
        go_quiet (fail)
        go_wp2_with fail
        go_ret
        exact ⟨rfl, bdN hB.out _⟩
      · have q1 := toList_ne hxc
        have HT2 : Hid (ch ∉ (E.take (k + 1)).map (·.chan)) := by
          show _ ∉ _
          rw [List.take_add_one, hx, List.map_append]
          intro h
          rcases List.mem_append.1 h with h | h
          · exact hT.out h
          · have h' : ch = x.chan := by simpa using h
            exact hxc h'.symm
        clear hx hxc
        go_wp2_with fail
        go_quiet (fail)
        go_wp2_with fail
        go_roundw
        case rel => exact ⟨k + 1, hlt, by rw [Int.natCast_succ], HT2.out, bdN hB.out _⟩
        case measure => simp only [intOf]; omega
    · obtain rfl : k = i := by omega
      have hd : decide (ch ∉ (E.take k).map (·.chan)) = true := decide_eq_true hT.out
      have HC2 : Hid (out = (decide (ch ∉ bad) && decide (ea ≠ ebb))) := by show _ = _; rw [HCB.out, hd]; rfl
      clear hd hk hlt hT HCB
      have HQ := Lib.hid (fun (W : World) (h : Below wr.heap.size wr W) => HHAS.out W (btr hB.out h))
      by_cases hbd : ch ∈ bad
      · rw [decide_eq_true hbd] at HQ
        have HF : out = false := by rw [HC2.out, decide_eq_false (fun h => h hbd)]; rfl
        subst HF
        clear hbd HC2
        go_wp2_with fail
        go_quiet ((go_at_call 141; exact Calls.quiet_of_same (HQ.out _ (by repeat (first | exact Below.refl _ _ | refine bdN ?_ _ | refine Below.drew ?_)))))
        go_wp2_with fail
        go_ret
        exact ⟨rfl, bdN hB.out _⟩
      · rw [decide_eq_false hbd] at HQ
        rw [decide_eq_true hbd] at HC2
        by_cases hab : ea = ebb
        · subst hab
          have HF : out = false := by rw [HC2.out]; simp
          subst HF
          clear hbd HC2
          go_wp2_with fail
          go_quiet ((go_at_call 141; exact Calls.quiet_of_same (HQ.out _ (by repeat (first | exact Below.refl _ _ | refine bdN ?_ _ | refine Below.drew ?_)))))
          go_wp2_with fail
          go_ret
          exact ⟨rfl, bdN hB.out _⟩
        · have q1 := toList_ne hab
          have HF : out = true := by rw [HC2.out, decide_eq_true hab]; rfl
          subst HF
          clear hbd HC2 hab
          go_wp2_with fail
          go_quiet ((go_at_call 141; exact Calls.quiet_of_same (HQ.out _ (by repeat (first | exact Below.refl _ _ | refine bdN ?_ _ | refine Below.drew ?_)))))
          go_wp2_with fail
          go_ret
          exact ⟨rfl, bdN hB.out _⟩
end Go.Proofs.YtbdimlppnhcicaaGreatDoor
/- route: the document's over, better -/
namespace Go.Proofs.YtbdimlppnhcicaaGreatDoor
set_option linter.unusedVariables false
open Go.RowKit Rte
/-! route: the document's policy, over, better -/
structure Nd where
  node : ByteArray
  e : En
  o : Option Addr
  c : Nat
def ndC (t : Nd) : List Value := [.string t.node, .int .i64 t.e.amt, .int .i64 t.e.exp, .slice t.o t.e.hops.length t.c]
def ndV (t : Nd) : Value := .agg #[.string t.node, .int .i64 t.e.amt, .int .i64 t.e.exp, .slice t.o t.e.hops.length t.c]
def NdAt (W : World) (t : Nd) : Prop := RowsAt 4 hpC t.o t.e.hops W
theorem NdAt.below {W W' : World} {t : Nd} (h : NdAt W t) (hb : Below W.heap.size W W') : NdAt W' t := RowsAt.below h hb
theorem hpC_len (x : Hp) : (hpC x).length = 4 := rfl
theorem ndC_len (x : Nd) : (ndC x).length = 4 := rfl
theorem hpC_one (x : Hp) : ∀ u ∈ hpC x, u.oneCell' = true := by
  intro u hu
  simp only [hpC, List.mem_cons, List.not_mem_nil, or_false] at hu
  rcases hu with rfl | rfl | rfl | rfl <;> rfl
theorem own_fresh {w : World} {base E n m g : Nat} {cs : Array Value} (hb : w.heap[g]? = some (.cells cs E (0, 0))) (hg : base ≤ g) (hm : m ≤ maxLen) (hs : cs.size = m * n) : w.ownsRow base E n (.slice (some ⟨g, 0, none⟩) m m) m cs.toList :=
  ⟨by simpa using hs, .inr ⟨g, m, cs, rfl, hg, hb, Nat.le_refl _, hm, hs, by rw [← hs]; exact List.take_of_length_le (by simp)⟩⟩
/-- an address in memory from a block on -/
def NewA (B : Nat) (o : Option Addr) : Prop := ∃ b, o = some ⟨b, 0, none⟩ ∧ B ≤ b
theorem NewA.weak {B B' : Nat} {o : Option Addr} (h : NewA B o) (hb : B' ≤ B) : NewA B' o := by obtain ⟨b, h1, h2⟩ := h; exact ⟨b, h1, Nat.le_trans hb h2⟩
theorem own_new {w : World} {base E n m k : Nat} {a : Option Addr} {xs : List Value} (h : w.ownsRow base E n (.slice a m k) m xs) (hm : 0 < m) : NewA base a := by
  rcases h.2 with ⟨_, h0⟩ | ⟨g, cap, cur, h1, h2, _⟩
  · omega
  · cases h1; exact ⟨g, rfl, h2⟩
set_option maxRecDepth 100000 in
set_option maxHeartbeats 4000000 in
theorem over_any (ch : ByteArray) (t : Nd) (w : World) (ht : NdAt w t) (hl : t.e.hops.length ≤ 100) : Calls Tryz.prog 86 #[.string ch, ndV t] w fun e w' => ∃ o c, e = .returned (.slice o (t.e.hops.length + 1) c) ∧ RowsAt 4 hpC o (⟨ch, t.node, t.e.amt, t.e.exp⟩ :: t.e.hops) w' ∧ Below w.heap.size w w' ∧ NewA w.heap.size o := by
  obtain ⟨nd, ⟨amt, exp, hops⟩, o, c⟩ := t
  unfold NdAt at ht
  dsimp only at ht hl
  show Calls Tryz.prog 86 #[.string ch, .agg #[.string nd, .int .i64 amt, .int .i64 exp, .slice o hops.length c]] w fun e w' => ∃ o c, e = .returned (.slice o (hops.length + 1) c) ∧ RowsAt 4 hpC o (⟨ch, nd, amt, exp⟩ :: hops) w' ∧ Below w.heap.size w w' ∧ NewA w.heap.size o
  have hb2 : Below w.heap.size w ((w.alloc (.cells #[.string nd, .int .i64 amt, .int .i64 exp, .slice o hops.length c] 151)).alloc (.cells #[.string ch, .string nd, .int .i64 amt, .int .i64 exp] 49)) := ((Below.refl _ _).alloc (Nat.le_refl _) _).alloc (by simp) _
  have HT := Lib.hid (ht.below hb2)
  have HB2 := Lib.hid hb2
  obtain ⟨i0, hi0, hz0, hz1, hz2⟩ := info_parts Tryz.info49h
  have HOW : Hid (((w.alloc (.cells #[.string nd, .int .i64 amt, .int .i64 exp, .slice o hops.length c] 151)).alloc (.cells #[.string ch, .string nd, .int .i64 amt, .int .i64 exp] 49)).ownsRow w.heap.size 49 4 (.slice (some ⟨w.heap.size + 1, 0, none⟩) 1 1) 1 [.string ch, .string nd, .int .i64 amt, .int .i64 exp]) := by
    refine own_fresh (cs := #[.string ch, .string nd, .int .i64 amt, .int .i64 exp]) ?_ (by omega) (by unfold maxLen; omega) rfl
    have := heap_alloc_at (w.alloc (.cells #[.string nd, .int .i64 amt, .int .i64 exp, .slice o hops.length c] 151)) (.cells #[.string ch, .string nd, .int .i64 amt, .int .i64 exp] 49)
    simpa using this
  clear ht hb2
  go_enter Tryz.func86, Tryz.ntmps86
  go_wp2_with (at_builtin; refine wpList_app_rows rfl hpC_len hpC_one _ _ 41 rfl w.heap.size 49 i0 _ 48 Tryz.underlying41 hi0 hz0 hz1 hz2 rfl (by omega) (some ⟨w.heap.size + 1, 0, none⟩) 1 1 _ rfl HOW.out o hops c rfl HT.out (by unfold maxLen; omega) (by omega) (by simp; omega) ?_; intro a' k' w2 hown2 hgrow2; have B3 : Hid (Below w.heap.size w w2) := (HB2.out.grown hgrow2 (by simp; omega) (fun g hg => by cases hg; exact Nat.le_succ _)); have N3 : Hid (NewA w.heap.size a') := own_new hown2 (by omega); have R3 := Lib.hid (own_rows (l := ⟨ch, nd, amt, exp⟩ :: hops) hpC_len hown2 (by simp; omega)); clear hown2 hgrow2)
  go_ret
  obtain ⟨o3, c3, e3, h3⟩ := R3.out
  cases e3
  exact ⟨a', k', by rw [Nat.add_comm]; rfl, h3, B3.out, N3.out⟩
theorem bet_amt {x y : En} (h : x.amt ≠ y.amt) : betB x y = decide (x.amt < y.amt) := by
  unfold betB
  rw [Bool.eq_iff_iff, key_lt, decide_eq_true_iff]
  constructor
  · rintro (k | ⟨k, _⟩)
    · exact k
    · exact absurd k h
  · exact .inl
theorem bet_exp {x y : En} (h : x.amt = y.amt) (h2 : x.exp ≠ y.exp) : betB x y = decide (x.exp < y.exp) := by
  unfold betB
  rw [Bool.eq_iff_iff, key_lt, decide_eq_true_iff]
  constructor
  · rintro (k | ⟨_, k | ⟨k, _⟩⟩)
    · omega
    · exact k
    · exact absurd k h2
  · exact fun k => .inr ⟨h, .inl k⟩
theorem bet_len {x y : En} (h : x.amt = y.amt) (h2 : x.exp = y.exp) (h3 : x.hops.length ≠ y.hops.length) : betB x y = decide (x.hops.length < y.hops.length) := by
  unfold betB
  rw [Bool.eq_iff_iff, key_lt, decide_eq_true_iff]
  constructor
  · rintro (k | ⟨_, k | ⟨_, k | ⟨k, _⟩⟩⟩)
    · omega
    · omega
    · omega
    · exact absurd k h3
  · exact fun k => .inr ⟨h, .inr ⟨h2, .inl (by omega)⟩⟩
theorem bet_tail {x y : En} (h : x.amt = y.amt) (h2 : x.exp = y.exp) (h3 : x.hops.length = y.hops.length) : betB x y = lexB (tailK x.hops) (tailK y.hops) := by
  unfold betB
  rw [Bool.eq_iff_iff, key_lt]
  constructor
  · rintro (k | ⟨_, k | ⟨_, k | ⟨_, k⟩⟩⟩)
    · omega
    · omega
    · omega
    · exact k
  · exact fun k => .inr ⟨h, .inr ⟨h2, .inr ⟨h3, k⟩⟩⟩
theorem tail_ne {h g : Hp} {x y : List Hp} (hc : h.chan ≠ g.chan) : lexB (tailK (h :: x)) (tailK (g :: y)) = Op.bytesLess h.chan.toList g.chan.toList := by
  unfold tailK
  rw [List.flatMap_cons, List.flatMap_cons, cmpS_enc]
  unfold cmpS
  cases hb : Op.bytesLess h.chan.toList g.chan.toList with
  | true => simp
  | false => rw [if_neg (by decide), if_neg hc]; simp
theorem tail_eq {h g : Hp} {x y : List Hp} (hc : h.chan = g.chan) : lexB (tailK (h :: x)) (tailK (g :: y)) = lexB (tailK x) (tailK y) := by
  unfold tailK
  rw [List.flatMap_cons, List.flatMap_cons, hc, lex_app]
set_option maxRecDepth 100000 in
set_option maxHeartbeats 8000000 in
theorem better_any (s t : Nd) (w : World) (hs : NdAt w s) (ht : NdAt w t) (hl : s.e.hops.length ≤ 100) (hl2 : t.e.hops.length ≤ 100) : Calls Tryz.prog 87 #[ndV s, ndV t] w fun e w' => e = .returned (.bool (betB s.e t.e)) ∧ Below w.heap.size w w' := by
  obtain ⟨n1, ⟨a1, x1, h1⟩, o1, c1⟩ := s
  obtain ⟨n2, ⟨a2, x2, h2⟩, o2, c2⟩ := t
  unfold NdAt at hs ht
  dsimp only at hs ht hl hl2
  show Calls Tryz.prog 87 #[.agg #[.string n1, .int .i64 a1, .int .i64 x1, .slice o1 h1.length c1], .agg #[.string n2, .int .i64 a2, .int .i64 x2, .slice o2 h2.length c2]] w fun e w' => e = .returned (.bool (betB ⟨a1, x1, h1⟩ ⟨a2, x2, h2⟩)) ∧ Below w.heap.size w w'
  obtain ⟨out, hout⟩ : ∃ o, betB ⟨a1, x1, h1⟩ ⟨a2, x2, h2⟩ = o := ⟨_, rfl⟩
  rw [hout]
  have hb2 : Below w.heap.size w ((w.alloc (.cells #[.string n1, .int .i64 a1, .int .i64 x1, .slice o1 h1.length c1] 151)).alloc (.cells #[.string n2, .int .i64 a2, .int .i64 x2, .slice o2 h2.length c2] 151)) := ((Below.refl _ _).alloc (Nat.le_refl _) _).alloc (by simp) _
  by_cases g1 : a1 = a2
  · have e1 : (a1 != a2) = false := by simp [g1]
    by_cases g2 : x1 = x2
    · have e2 : (x1 != x2) = false := by simp [g2]
      by_cases g3 : h1.length = h2.length
      · have e3 : ((h1.length : Int) != (h2.length : Int)) = false := by simp [g3]
        have HO : Hid (lexB (tailK (h1.drop 0)) (tailK (h2.drop 0)) = out) := by
          show _ = _
          rw [← hout, bet_tail g1 g2 g3]; rfl
        have HS := Lib.hid hs
        have HT := Lib.hid ht
        have HB2 := Lib.hid hb2
        have HL := Lib.hid hl
        have HG3 := Lib.hid g3
        have hk1 : ((w.alloc (.cells #[.string n1, .int .i64 a1, .int .i64 x1, .slice o1 h1.length c1] 151)).alloc (.cells #[.string n2, .int .i64 a2, .int .i64 x2, .slice o2 h2.length c2] 151)).cell? ⟨w.heap.size, 3, none⟩ = some (.slice o1 h1.length c1) := by
          rw [cell_of_row _ _ _ _ _ _ ((heap_alloc_old _ _ (by simp)).trans (heap_alloc_at w _))]; rfl
        have hk2 : ((w.alloc (.cells #[.string n1, .int .i64 a1, .int .i64 x1, .slice o1 h1.length c1] 151)).alloc (.cells #[.string n2, .int .i64 a2, .int .i64 x2, .slice o2 h2.length c2] 151)).cell? ⟨w.heap.size + 1, 3, none⟩ = some (.slice o2 h2.length c2) := by
          have := heap_alloc_at (w.alloc (.cells #[.string n1, .int .i64 a1, .int .i64 x1, .slice o1 h1.length c1] 151)) (.cells #[.string n2, .int .i64 a2, .int .i64 x2, .slice o2 h2.length c2] 151)
          rw [cell_of_row _ _ _ _ _ _ (by simpa using this)]; rfl
        have HK1 := Lib.hid hk1
        have HK2 := Lib.hid hk2
        clear hs ht hl hl2 hout hb2 g1 g2 g3 hk1 hk2
        go_enter Tryz.func87, Tryz.ntmps87
        go_wp2_with fail
        clear e1 e2 e3
        generalize ((w.alloc (.cells #[.string n1, .int .i64 a1, .int .i64 x1, .slice o1 h1.length c1] 151)).alloc (.cells #[.string n2, .int .i64 a2, .int .i64 x2, .slice o2 h2.length c2] 151)) = w2 at HB2 HK1 HK2 ⊢
        go_loopw [5] (fun iv wr => ∃ i : Nat, i ≤ h1.length ∧ iv = .int .i64 i ∧ Hid (lexB (tailK (h1.drop i)) (tailK (h2.drop i)) = out) ∧ Hid (Below w2.heap.size w2 wr)) (fun iv _ => h1.length - (intOf iv).toNat)
        case atStart => exact ⟨0, Nat.zero_le _, rfl, HO.out, Below.refl _ _⟩
        case round =>
          obtain ⟨i, hi, rfl, hT, hB⟩ := hrel
          have y1 := cell_later' hB.out HK1.out
          have y2 := cell_later' hB.out HK2.out
          have hl := HL.out
          have hg3 := HG3.out
          have hBW := Lib.hid (HB2.out.trans ⟨hB.out.os, hB.out.tape, hB.out.output, hB.out.size, fun i hi => hB.out.block i (Nat.lt_of_lt_of_le hi HB2.out.size)⟩)
          by_cases hlt : i < h1.length
          · obtain ⟨p, hp⟩ : ∃ p, h1[i]? = some p := ⟨_, List.getElem?_eq_getElem hlt⟩
            obtain ⟨q, hq⟩ : ∃ q, h2[i]? = some q := ⟨_, List.getElem?_eq_getElem (by omega)⟩
            obtain ⟨b1, f1, rfl, k1⟩ := rows_at HS.out hp
            obtain ⟨b2, f2, rfl, k2⟩ := rows_at HT.out hq
            have z1 : wr.cell? ⟨b1, f1 + i * 4, none⟩ = some (.string p.chan) := cell_later' hBW.out (k1 0 _ rfl)
            have z2 : wr.cell? ⟨b2, f2 + i * 4, none⟩ = some (.string q.chan) := cell_later' hBW.out (k2 0 _ rfl)
            have d1 : h1.drop i = p :: h1.drop (i + 1) := by rw [List.drop_eq_getElem_cons hlt]; congr 1; rw [List.getElem?_eq_getElem hlt] at hp; exact Option.some.inj hp
            have d2 : h2.drop i = q :: h2.drop (i + 1) := by rw [List.drop_eq_getElem_cons (by omega)]; congr 1; rw [List.getElem?_eq_getElem (by omega)] at hq; exact Option.some.inj hq
            have hii : (i : Int) < (h1.length : Int) := by omega
            have hii2 : (i : Int) < (h2.length : Int) := by omega
            have hii3 : (h1.length : Int) ≤ 100 := by omega
            clear k1 k2 hp hq hi hl hg3
            rw [d1, d2] at hT
            by_cases hc : p.chan = q.chan
            · have q1 : p.chan.toList = q.chan.toList := by rw [hc]
              rw [tail_eq hc] at hT
              clear hc d1 d2
              go_wp2_with fail
              go_quiet (fail)
              go_wp2_with fail
              go_roundw
              case rel => exact ⟨i + 1, hlt, by rw [Int.natCast_succ], hT.out, bdN hB.out _⟩
              case measure => simp only [intOf]; omega
            · have q1 := toList_ne hc
              rw [tail_ne hc] at hT
              clear hc d1 d2
              obtain ⟨r, hr⟩ : ∃ r, Op.bytesLess p.chan.toList q.chan.toList = r := ⟨_, rfl⟩
              have HR : Hid (r = out) := by rw [← hr]; exact hT.out
              clear hT
              go_wp2_with fail
              go_quiet (fail)
              go_wp2_with fail
              go_quiet (fail)
              go_wp2_with fail
              go_ret
              exact ⟨by rw [← HR.out]; rfl, by repeat (first | exact hBW.out | refine bdN ?_ _ | refine Below.drew ?_)⟩
          · obtain rfl : i = h1.length := by omega
            have HF : out = false := by
              have := hT.out
              rw [List.drop_length, hg3, List.drop_length] at this
              exact this.symm
            subst HF
            clear hi hlt hl hg3 hT
            go_wp2_with fail
            go_ret
            exact ⟨rfl, hBW.out⟩
      · have e3 : ((h1.length : Int) != (h2.length : Int)) = true := by simp; intro h; exact g3 (by omega)
        have HO : Hid (decide (h1.length < h2.length) = out) := by show _ = _; rw [← hout, bet_len g1 g2 g3]
        have HB2 := Lib.hid hb2
        obtain ⟨r, hr⟩ : ∃ r, decide (h1.length < h2.length) = r := ⟨_, rfl⟩
        rw [hr] at HO
        clear hs ht hl hl2 hout hb2 g1 g2 g3
        go_enter Tryz.func87, Tryz.ntmps87
        go_wp2_with fail
        go_ret
        exact ⟨by rw [← HO.out]; rfl, HB2.out⟩
    · have e2 : (x1 != x2) = true := by simp [g2]
      have HO : Hid (decide (x1 < x2) = out) := by show _ = _; rw [← hout, bet_exp g1 g2]
      have HB2 := Lib.hid hb2
      obtain ⟨r, hr⟩ : ∃ r, decide (x1 < x2) = r := ⟨_, rfl⟩
      rw [hr] at HO
      clear hs ht hl hl2 hout hb2 g1 g2
      go_enter Tryz.func87, Tryz.ntmps87
      go_wp2_with fail
      go_ret
      exact ⟨by rw [← HO.out]; rfl, HB2.out⟩
  · have e1 : (a1 != a2) = true := by simp [g1]
    have HO : Hid (decide (a1 < a2) = out) := by show _ = _; rw [← hout, bet_amt g1]
    have HB2 := Lib.hid hb2
    obtain ⟨r, hr⟩ : ∃ r, decide (a1 < a2) = r := ⟨_, rfl⟩
    rw [hr] at HO
    clear hs ht hl hl2 hout hb2 g1
    go_enter Tryz.func87, Tryz.ntmps87
    go_wp2_with fail
    go_ret
    exact ⟨by rw [← HO.out]; rfl, HB2.out⟩
end Go.Proofs.YtbdimlppnhcicaaGreatDoor
/- route: the document's policy -/
namespace Go.Proofs.YtbdimlppnhcicaaGreatDoor
set_option linter.unusedVariables false
open Go.RowKit Rte
/-! route: the document's policy, put -/
def polT (o : Option Plc) : Plc × Bool := match o with | none => (plcZ, false) | some p => (p, !p.off)
def polR (P : List Plc) (c f : ByteArray) : Plc × Bool := polT (polOf P c f)
theorem pol_skip {P : List Plc} {c f : ByteArray} {i : Nat} {p : Plc} (hp : P[i]? = some p) (hn : ¬ (p.chan = c ∧ p.frm = f)) : polOf (P.drop i) c f = polOf (P.drop (i + 1)) c f := by
  have hlt : i < P.length := (List.getElem?_eq_some_iff.1 hp).1
  have hd : P.drop i = p :: P.drop (i + 1) := by rw [List.drop_eq_getElem_cons hlt]; congr 1; exact (List.getElem?_eq_some_iff.1 hp).2
  unfold polOf
  rw [hd, List.find?_cons, decide_eq_false hn]
theorem pol_hit {P : List Plc} {c f : ByteArray} {i : Nat} {p : Plc} (hp : P[i]? = some p) (hy : p.chan = c ∧ p.frm = f) : polOf (P.drop i) c f = some p := by
  have hlt : i < P.length := (List.getElem?_eq_some_iff.1 hp).1
  have hd : P.drop i = p :: P.drop (i + 1) := by rw [List.drop_eq_getElem_cons hlt]; congr 1; exact (List.getElem?_eq_some_iff.1 hp).2
  unfold polOf
  rw [hd, List.find?_cons, decide_eq_true hy]
theorem below_fr {B : Nat} {w W W' : World} {k : Nat} (h : Below B w W) (hF : Fr (fun i => i = k) W W') (hk : B ≤ k) (hs : B ≤ W.heap.size) : Below B w W' :=
  ⟨hF.os.trans h.os, hF.tape.trans h.tape, hF.output.trans h.output, Nat.le_trans h.size hF.size, fun i hi => (hF.block i (by omega) (by omega)).trans (h.block i hi)⟩
theorem row9_set {W : World} {k : Nat} {t : TypeId} {a0 a1 a2 a3 a4 a5 a6 a7 a8 b0 b1 b2 b3 b4 b5 b6 b7 b8 : Value} (h : W.heap[k]? = some (.cells #[a0, a1, a2, a3, a4, a5, a6, a7, a8] t (0, 0))) :
    (((((((((W.setCell ⟨k, 0, none⟩ b0).setCell ⟨k, 1, none⟩ b1).setCell ⟨k, 2, none⟩ b2).setCell ⟨k, 3, none⟩ b3).setCell ⟨k, 4, none⟩ b4).setCell ⟨k, 5, none⟩ b5).setCell ⟨k, 6, none⟩ b6).setCell ⟨k, 7, none⟩ b7).setCell ⟨k, 8, none⟩ b8).heap[k]? = some (.cells #[b0, b1, b2, b3, b4, b5, b6, b7, b8] t (0, 0)) := by
  have h0 : (W.setCell ⟨k, 0, none⟩ b0).heap[k]? = some (.cells #[b0, a1, a2, a3, a4, a5, a6, a7, a8] t (0, 0)) := by rw [heap_setCell_same _ _ _ _ _ _ h]; rfl
  have h1 : ((W.setCell ⟨k, 0, none⟩ b0).setCell ⟨k, 1, none⟩ b1).heap[k]? = some (.cells #[b0, b1, a2, a3, a4, a5, a6, a7, a8] t (0, 0)) := by rw [heap_setCell_same _ _ _ _ _ _ h0]; rfl
  have h2 : (((W.setCell ⟨k, 0, none⟩ b0).setCell ⟨k, 1, none⟩ b1).setCell ⟨k, 2, none⟩ b2).heap[k]? = some (.cells #[b0, b1, b2, a3, a4, a5, a6, a7, a8] t (0, 0)) := by rw [heap_setCell_same _ _ _ _ _ _ h1]; rfl
  have h3 : ((((W.setCell ⟨k, 0, none⟩ b0).setCell ⟨k, 1, none⟩ b1).setCell ⟨k, 2, none⟩ b2).setCell ⟨k, 3, none⟩ b3).heap[k]? = some (.cells #[b0, b1, b2, b3, a4, a5, a6, a7, a8] t (0, 0)) := by rw [heap_setCell_same _ _ _ _ _ _ h2]; rfl
  have h4 : (((((W.setCell ⟨k, 0, none⟩ b0).setCell ⟨k, 1, none⟩ b1).setCell ⟨k, 2, none⟩ b2).setCell ⟨k, 3, none⟩ b3).setCell ⟨k, 4, none⟩ b4).heap[k]? = some (.cells #[b0, b1, b2, b3, b4, a5, a6, a7, a8] t (0, 0)) := by rw [heap_setCell_same _ _ _ _ _ _ h3]; rfl
  have h5 : ((((((W.setCell ⟨k, 0, none⟩ b0).setCell ⟨k, 1, none⟩ b1).setCell ⟨k, 2, none⟩ b2).setCell ⟨k, 3, none⟩ b3).setCell ⟨k, 4, none⟩ b4).setCell ⟨k, 5, none⟩ b5).heap[k]? = some (.cells #[b0, b1, b2, b3, b4, b5, a6, a7, a8] t (0, 0)) := by rw [heap_setCell_same _ _ _ _ _ _ h4]; rfl
  have h6 : (((((((W.setCell ⟨k, 0, none⟩ b0).setCell ⟨k, 1, none⟩ b1).setCell ⟨k, 2, none⟩ b2).setCell ⟨k, 3, none⟩ b3).setCell ⟨k, 4, none⟩ b4).setCell ⟨k, 5, none⟩ b5).setCell ⟨k, 6, none⟩ b6).heap[k]? = some (.cells #[b0, b1, b2, b3, b4, b5, b6, a7, a8] t (0, 0)) := by rw [heap_setCell_same _ _ _ _ _ _ h5]; rfl
  have h7 : ((((((((W.setCell ⟨k, 0, none⟩ b0).setCell ⟨k, 1, none⟩ b1).setCell ⟨k, 2, none⟩ b2).setCell ⟨k, 3, none⟩ b3).setCell ⟨k, 4, none⟩ b4).setCell ⟨k, 5, none⟩ b5).setCell ⟨k, 6, none⟩ b6).setCell ⟨k, 7, none⟩ b7).heap[k]? = some (.cells #[b0, b1, b2, b3, b4, b5, b6, b7, a8] t (0, 0)) := by rw [heap_setCell_same _ _ _ _ _ _ h6]; rfl
  have h8 : (((((((((W.setCell ⟨k, 0, none⟩ b0).setCell ⟨k, 1, none⟩ b1).setCell ⟨k, 2, none⟩ b2).setCell ⟨k, 3, none⟩ b3).setCell ⟨k, 4, none⟩ b4).setCell ⟨k, 5, none⟩ b5).setCell ⟨k, 6, none⟩ b6).setCell ⟨k, 7, none⟩ b7).setCell ⟨k, 8, none⟩ b8).heap[k]? = some (.cells #[b0, b1, b2, b3, b4, b5, b6, b7, b8] t (0, 0)) := by rw [heap_setCell_same _ _ _ _ _ _ h7]; rfl
  exact h8
theorem fr9_set {W : World} {k : Nat} {b0 b1 b2 b3 b4 b5 b6 b7 b8 : Value} : Fr (fun i => i = k) W (((((((((W.setCell ⟨k, 0, none⟩ b0).setCell ⟨k, 1, none⟩ b1).setCell ⟨k, 2, none⟩ b2).setCell ⟨k, 3, none⟩ b3).setCell ⟨k, 4, none⟩ b4).setCell ⟨k, 5, none⟩ b5).setCell ⟨k, 6, none⟩ b6).setCell ⟨k, 7, none⟩ b7).setCell ⟨k, 8, none⟩ b8) :=
  ((((((((((Fr.refl (fun i => i = k) W).set k 0 b0 rfl).set k 1 b1 rfl).set k 2 b2 rfl).set k 3 b3 rfl).set k 4 b4 rfl).set k 5 b5 rfl).set k 6 b6 rfl).set k 7 b7 rfl).set k 8 b8 rfl)
theorem cells9 {W : World} {k : Nat} {t : TypeId} {a0 a1 a2 a3 a4 a5 a6 a7 a8 : Value} (h : W.heap[k]? = some (.cells #[a0, a1, a2, a3, a4, a5, a6, a7, a8] t (0, 0))) :
    W.cell? ⟨k, 0, none⟩ = some a0 ∧ W.cell? ⟨k, 1, none⟩ = some a1 ∧ W.cell? ⟨k, 2, none⟩ = some a2 ∧ W.cell? ⟨k, 3, none⟩ = some a3 ∧ W.cell? ⟨k, 4, none⟩ = some a4 ∧ W.cell? ⟨k, 5, none⟩ = some a5 ∧ W.cell? ⟨k, 6, none⟩ = some a6 ∧ W.cell? ⟨k, 7, none⟩ = some a7 ∧ W.cell? ⟨k, 8, none⟩ = some a8 := by
  refine ⟨?_, ?_, ?_, ?_, ?_, ?_, ?_, ?_, ?_⟩ <;> (rw [cell_of_row _ _ _ _ _ _ h]; rfl)
theorem froz9 {W : World} {k : Nat} {t : TypeId} {cs : Array Value} (h : W.heap[k]? = some (.cells cs t (0, 0))) (j : Nat) : W.frozen? ⟨k, j, none⟩ = false := by simp [World.frozen?, h]
set_option maxRecDepth 100000 in
set_option maxHeartbeats 8000000 in
theorem policy_any (op : Option Addr) (P : List Plc) (cp : Nat) (c f : ByteArray) (w : World) (hP : RowsAt 9 plcC op P w) (hn : P.length ≤ 1000) : Calls Tryz.prog 142 #[.slice op P.length cp, .string c, .string f] w fun e w' => e = .returned (.tuple #[plcV (polR P c f).1, .bool (polR P c f).2]) ∧ Below w.heap.size w w' := by
  have HP := Lib.hid hP
  have HN := Lib.hid hn
  obtain ⟨r, hr⟩ : ∃ r, polOf P c f = r := ⟨_, rfl⟩
  have hrr : polR P c f = polT r := by unfold polR; rw [hr]
  rw [hrr]
  have HR : Hid (polOf (P.drop 0) c f = r) := hr
  clear hP hn hr hrr
  go_enter Tryz.func142, Tryz.ntmps142
  go_wp2_with fail
  go_loopw [8] (fun iv wr => ∃ i : Nat, i ≤ P.length ∧ iv = .int .i64 i ∧ Hid (polOf (P.drop i) c f = r) ∧ Hid (Below w.heap.size w wr) ∧ Hid (wr.heap[w.heap.size]? = some (.cells #[.string ⟨#[]⟩, .string ⟨#[]⟩, .int .i64 0, .int .i64 0, .int .i64 0, .int .i64 0, .int .i64 0, .int .i64 0, .bool false] 53 (0, 0)))) (fun iv _ => P.length - (intOf iv).toNat)
  case atStart => exact ⟨0, Nat.zero_le _, rfl, HR.out, below_new' _ _, heap_alloc_at _ _⟩
  case round =>
    obtain ⟨i, hi, rfl, hT, hB, hK⟩ := hrel
    have hi2 := HN.out
    by_cases hlt : i < P.length
    · obtain ⟨p, hp⟩ : ∃ p, P[i]? = some p := ⟨_, List.getElem?_eq_getElem hlt⟩
      obtain ⟨pb, po, rfl, hc⟩ := rows_at HP.out hp
      have hii : (i : Int) < (P.length : Int) := by omega
      have hii2 : (P.length : Int) ≤ 1000 := by omega
      have z0 : wr.cell? ⟨pb, po + i * 9, none⟩ = some (.string p.chan) := cell_later' hB.out (hc 0 _ rfl)
      have z1 : wr.cell? ⟨pb, po + i * 9 + 1, none⟩ = some (.string p.frm) := cell_later' hB.out (hc 1 _ rfl)
      by_cases hch : p.chan = c
      · have q0 : p.chan.toList = c.toList := by rw [hch]
        by_cases hfr : p.frm = f
        · have q1 : p.frm.toList = f.toList := by rw [hfr]
          have hrs : r = some p := by rw [← hT.out]; exact pol_hit hp ⟨hch, hfr⟩
          subst hrs
          have z2 : wr.cell? ⟨pb, po + i * 9 + 2, none⟩ = some (.int .i64 p.stamp) := cell_later' hB.out (hc 2 _ rfl)
          have z3 : wr.cell? ⟨pb, po + i * 9 + 3, none⟩ = some (.int .i64 p.base) := cell_later' hB.out (hc 3 _ rfl)
          have z4 : wr.cell? ⟨pb, po + i * 9 + 4, none⟩ = some (.int .i64 p.rate) := cell_later' hB.out (hc 4 _ rfl)
          have z5 : wr.cell? ⟨pb, po + i * 9 + 5, none⟩ = some (.int .i64 p.delta) := cell_later' hB.out (hc 5 _ rfl)
          have z6 : wr.cell? ⟨pb, po + i * 9 + 6, none⟩ = some (.int .i64 p.min) := cell_later' hB.out (hc 6 _ rfl)
          have z7 : wr.cell? ⟨pb, po + i * 9 + 7, none⟩ = some (.int .i64 p.max) := cell_later' hB.out (hc 7 _ rfl)
          have z8 : wr.cell? ⟨pb, po + i * 9 + 8, none⟩ = some (.bool p.off) := cell_later' hB.out (hc 8 _ rfl)
          have hpl : pb ≠ w.heap.size := by
            intro h
            have h1 := World.block_lt_of_cell? w _ (hc 0 _ rfl)
            dsimp only at h1; omega
          have hkl := lt_of_heap hK.out
          have hbl := World.block_lt_of_cell? wr _ z0
          dsimp only at hbl
          clear hc hi hi2 hch hfr hp hT
          obtain ⟨k0, k1, k2, k3, k4, k5, k6, k7, k8⟩ := cells9 hK.out
          have f0 := froz9 hK.out 0; have f1 := froz9 hK.out 1; have f2 := froz9 hK.out 2; have f3 := froz9 hK.out 3; have f4 := froz9 hK.out 4; have f5 := froz9 hK.out 5; have f6 := froz9 hK.out 6; have f7 := froz9 hK.out 7; have f8 := froz9 hK.out 8
          have hpl2 := hpl.symm
          go_wp2_with fail
          go_region_held3 (fun W => W.cell? ⟨pb, po + i * 9, none⟩ = some (.string p.chan) ∧ W.cell? ⟨pb, po + i * 9 + 1, none⟩ = some (.string p.frm) ∧ W.cell? ⟨pb, po + i * 9 + 2, none⟩ = some (.int .i64 p.stamp) ∧ W.cell? ⟨pb, po + i * 9 + 3, none⟩ = some (.int .i64 p.base) ∧ W.cell? ⟨pb, po + i * 9 + 4, none⟩ = some (.int .i64 p.rate) ∧ W.cell? ⟨pb, po + i * 9 + 5, none⟩ = some (.int .i64 p.delta) ∧ W.cell? ⟨pb, po + i * 9 + 6, none⟩ = some (.int .i64 p.min) ∧ W.cell? ⟨pb, po + i * 9 + 7, none⟩ = some (.int .i64 p.max) ∧ W.cell? ⟨pb, po + i * 9 + 8, none⟩ = some (.bool p.off)) (go_keep) (fail)
          go_wp2_with fail
          have HR9 : (((((((((wr.setCell ⟨w.heap.size, 0, none⟩ (.string p.chan)).setCell ⟨w.heap.size, 1, none⟩ (.string p.frm)).setCell ⟨w.heap.size, 2, none⟩ (.int .i64 p.stamp)).setCell ⟨w.heap.size, 3, none⟩ (.int .i64 p.base)).setCell ⟨w.heap.size, 4, none⟩ (.int .i64 p.rate)).setCell ⟨w.heap.size, 5, none⟩ (.int .i64 p.delta)).setCell ⟨w.heap.size, 6, none⟩ (.int .i64 p.min)).setCell ⟨w.heap.size, 7, none⟩ (.int .i64 p.max)).setCell ⟨w.heap.size, 8, none⟩ (.bool p.off)).heap[w.heap.size]? = some (.cells #[.string p.chan, .string p.frm, .int .i64 p.stamp, .int .i64 p.base, .int .i64 p.rate, .int .i64 p.delta, .int .i64 p.min, .int .i64 p.max, .bool p.off] 53 (0, 0)) := row9_set hK.out
          have HB9 : Below w.heap.size w (((((((((wr.setCell ⟨w.heap.size, 0, none⟩ (.string p.chan)).setCell ⟨w.heap.size, 1, none⟩ (.string p.frm)).setCell ⟨w.heap.size, 2, none⟩ (.int .i64 p.stamp)).setCell ⟨w.heap.size, 3, none⟩ (.int .i64 p.base)).setCell ⟨w.heap.size, 4, none⟩ (.int .i64 p.rate)).setCell ⟨w.heap.size, 5, none⟩ (.int .i64 p.delta)).setCell ⟨w.heap.size, 6, none⟩ (.int .i64 p.min)).setCell ⟨w.heap.size, 7, none⟩ (.int .i64 p.max)).setCell ⟨w.heap.size, 8, none⟩ (.bool p.off)) := below_fr hB.out fr9_set (Nat.le_refl _) (by omega)
          clear k0 k1 k2 k3 k4 k5 k6 k7 k8 f0 f1 f2 f3 f4 f5 f6 f7 f8 z0 z1 z2 z3 z4 z5 z6 z7 z8
          generalize (((((((((wr.setCell ⟨w.heap.size, 0, none⟩ (.string p.chan)).setCell ⟨w.heap.size, 1, none⟩ (.string p.frm)).setCell ⟨w.heap.size, 2, none⟩ (.int .i64 p.stamp)).setCell ⟨w.heap.size, 3, none⟩ (.int .i64 p.base)).setCell ⟨w.heap.size, 4, none⟩ (.int .i64 p.rate)).setCell ⟨w.heap.size, 5, none⟩ (.int .i64 p.delta)).setCell ⟨w.heap.size, 6, none⟩ (.int .i64 p.min)).setCell ⟨w.heap.size, 7, none⟩ (.int .i64 p.max)).setCell ⟨w.heap.size, 8, none⟩ (.bool p.off)) = w9 at HR9 HB9 ⊢
          have hl := run_loadVar_row (P := Tryz.prog) w9.drew w.heap.size 53 53 #[.string p.chan, .string p.frm, .int .i64 p.stamp, .int .i64 p.base, .int .i64 p.rate, .int .i64 p.delta, .int .i64 p.min, .int .i64 p.max, .bool p.off] (0, 0) _ HR9 Tryz.underlying53 rfl (by kernel_rfl)
          refine bodyPost_ret (results_cell_tmp Tryz.results142 _ _ _ rfl hl) rfl ⟨rfl, HB9.drew⟩
        · have q1 := toList_ne hfr
          rw [pol_skip hp (fun h => hfr h.2)] at hT
          clear hc hi hi2 hch hfr hp
          go_wp2_with fail
          go_roundw
          case rel => exact ⟨i + 1, hlt, by rw [Int.natCast_succ], hT.out, hB.out, hK.out⟩
          case measure => simp only [intOf]; omega
      · have q0 := toList_ne hch
        rw [pol_skip hp (fun h => hch h.1)] at hT
        clear hc hi hi2 hch hp
        go_wp2_with fail
        go_roundw
        case rel => exact ⟨i + 1, hlt, by rw [Int.natCast_succ], hT.out, hB.out, hK.out⟩
        case measure => simp only [intOf]; omega
    · obtain rfl : i = P.length := by omega
      have hrs : r = none := by
        have := hT.out
        rw [List.drop_length] at this
        exact this.symm
      subst hrs
      clear hi hi2 hlt hT
      go_wp2_with (with_reducible refine wpList_store_row rfl 53 (.tmp 6) (.tmp 41) rfl w.heap.size #[.string ⟨#[]⟩, .string ⟨#[]⟩, .int .i64 0, .int .i64 0, .int .i64 0, .int .i64 0, .int .i64 0, .int .i64 0, .bool false] rfl rfl 53 _ hK.out (by kernel_rfl) rfl (by simp [Value.oneCell']) ?_)
      have hl := run_loadVar_row (P := Tryz.prog) (wr.setRow w.heap.size #[.string ⟨#[]⟩, .string ⟨#[]⟩, .int .i64 0, .int .i64 0, .int .i64 0, .int .i64 0, .int .i64 0, .int .i64 0, .bool false]) w.heap.size 53 53 #[.string ⟨#[]⟩, .string ⟨#[]⟩, .int .i64 0, .int .i64 0, .int .i64 0, .int .i64 0, .int .i64 0, .int .i64 0, .bool false] (0, 0) _ (setRow_heap wr w.heap.size _ _ 53 _ hK.out) Tryz.underlying53 rfl (by kernel_rfl)
      refine bodyPost_ret (results_cell_tmp Tryz.results142 _ _ _ rfl hl) rfl ⟨rfl, below_setRow hB.out (Nat.le_refl _) _⟩
end Go.Proofs.YtbdimlppnhcicaaGreatDoor
/- route: the document's put -/
namespace Go.Proofs.YtbdimlppnhcicaaGreatDoor
set_option linter.unusedVariables false
open Go.RowKit Rte
/-! route: the document's put -/
def NdsAt (o : Option Addr) (l : List Nd) (W : World) : Prop := RowsAt 4 ndC o l W ∧ ∀ t ∈ l, NdAt W t
theorem NdsAt.below {o : Option Addr} {l : List Nd} {W W' : World} (h : NdsAt o l W) (hb : Below W.heap.size W W') : NdsAt o l W' := ⟨h.1.below hb, fun t ht => (h.2 t ht).below hb⟩
def pairN (t : Nd) : ByteArray × En := (t.node, t.e)
def putT (x y : Nd) : Nd := if y.node = x.node ∧ betB x.e y.e = true then x else y
def putNd (l : List Nd) (x : Nd) : List Nd := l.map (putT x) ++ (if x.node ∈ l.map (·.node) then [] else [x])
theorem put_skip (x : Nd) : ∀ l : List Nd, x.node ∉ l.map (·.node) → l.map (putT x) = l
  | [], _ => rfl
  | y :: l, h => by
    simp only [List.map_cons, List.mem_cons, not_or] at h
    rw [List.map_cons, put_skip x l h.2]
    unfold putT
    rw [if_neg (fun k => h.1 k.1.symm)]
theorem put_pair (x : Nd) : ∀ l : List Nd, (l.map (·.node)).Nodup → (putNd l x).map pairN = putR (l.map pairN) x.node x.e
  | [], _ => rfl
  | y :: l, h => by
    simp only [List.map_cons, List.nodup_cons] at h
    have ih := put_pair x l h.2
    by_cases hn : y.node = x.node
    · have hx : x.node ∉ l.map (·.node) := by rw [← hn]; exact h.1
      have e1 : putNd (y :: l) x = putT x y :: l := by
        unfold putNd
        rw [List.map_cons, put_skip x l hx, if_pos (by rw [List.map_cons, hn]; exact List.mem_cons_self ..), List.append_nil]
      rw [e1, List.map_cons, List.map_cons]
      show _ = putR ((y.node, y.e) :: l.map pairN) x.node x.e
      unfold putR
      rw [if_pos hn]
      congr 1
      unfold putT bestE pairN
      cases hb : betB x.e y.e with
      | true => rw [if_pos ⟨hn, rfl⟩]; simp [hb, hn]
      | false => rw [if_neg (fun k => by cases k.2)]; simp [hb]
    · have e1 : putNd (y :: l) x = y :: putNd l x := by
        unfold putNd
        have h2 : putT x y = y := by unfold putT; rw [if_neg (fun k => hn k.1)]
        have h3 : (x.node ∈ (y :: l).map (·.node)) ↔ x.node ∈ l.map (·.node) := by
          rw [List.map_cons, List.mem_cons]
          constructor
          · rintro (k | k); exact absurd k.symm hn; exact k
          · exact .inr
        rw [List.map_cons, h2, List.cons_append]
        congr 2
        by_cases hk : x.node ∈ l.map (·.node)
        · rw [if_pos hk, if_pos (h3.2 hk)]
        · rw [if_neg hk, if_neg (fun k => hk (h3.1 k))]
      rw [e1, List.map_cons, ih, List.map_cons]
      show _ = putR ((y.node, y.e) :: l.map pairN) x.node x.e
      rw [putR, if_neg hn]; rfl
theorem Tryz.info151 : (Tryz.prog.info? 151).map (fun i => (i.zero, i.size, i.bytes)) = some (some (.agg #[.string ⟨#[]⟩, .int .i64 0, .int .i64 0, .slice none 0 0]), 4, 56) := by kernel_rfl
theorem own_app_one {w' : World} {B m : Nat} {v : Value} {l : List Nd} {x : Nd} (h : w'.ownsRow B 151 4 v m (l.flatMap ndC ++ ndC x)) : w'.ownsRow B 151 4 v m ((l ++ [x]).flatMap ndC) := by
  rw [List.flatMap_append]; simpa using h
theorem grown_keepB {W w7 : World} {tmp : Obj} {base E n m : Nat} {v : Value} {xs : List Value} (h : W.ownsRow base E n v m xs) (hg : (W.alloc tmp).grownBy w7 v.ownBlock) {k : Nat} {o : Obj} (hk : W.heap[k]? = some o) (hb : k < base) : w7.heap[k]? = some o := by
  rw [hg.block k (by simp; have := lt_of_heap hk; omega) (fun e => by have := (own_cellsB h e.symm).1; omega)]
  exact (heap_alloc_old W tmp (lt_of_heap hk)).trans hk
theorem grown_belB {w W w7 : World} {tmp : Obj} {base E n m : Nat} {v : Value} {xs : List Value} (hb : Below w.heap.size w W) (hbase : w.heap.size ≤ base) (h : W.ownsRow base E n v m xs) (hg : (W.alloc tmp).grownBy w7 v.ownBlock) : Below w.heap.size w w7 := by
  refine ⟨hg.os.trans hb.os, hg.tape.trans hb.tape, hg.output.trans hb.output, ?_, fun k hk => ?_⟩
  · have h1 := hg.size; have h2 := hb.size; simp at h1; omega
  · have h2 := hb.size
    rw [hg.block k (by simp; omega) (fun e => by have := (own_cellsB h e.symm).1; omega), heap_alloc_old W tmp (by omega), hb.block k hk]
theorem cells4 {W : World} {k : Nat} {t : TypeId} {a0 a1 a2 a3 : Value} (h : W.heap[k]? = some (.cells #[a0, a1, a2, a3] t (0, 0))) : W.cell? ⟨k, 0, none⟩ = some a0 ∧ W.cell? ⟨k, 1, none⟩ = some a1 ∧ W.cell? ⟨k, 2, none⟩ = some a2 ∧ W.cell? ⟨k, 3, none⟩ = some a3 ∧ k < W.heap.size := by
  refine ⟨?_, ?_, ?_, ?_, lt_of_heap h⟩ <;> (rw [cell_of_row _ _ _ _ _ _ h]; rfl)
theorem mem_putNd {l : List Nd} {x t : Nd} (h : t ∈ putNd l x) : t ∈ l ∨ t = x := by
  unfold putNd at h
  rcases List.mem_append.1 h with h | h
  · obtain ⟨y, hy, rfl⟩ := List.mem_map.1 h
    unfold putT
    split
    · exact .inr rfl
    · exact .inl hy
  · split at h
    · cases h
    · exact .inr (by simpa using h)
def NdsPost (L : List Nd) (w : World) (e : Ending) (w' : World) : Prop := ∃ o' c', e = .returned (.slice o' L.length c') ∧ NdsAt o' L w' ∧ Below w.heap.size w w'
theorem take_put (x : Nd) {l : List Nd} {i : Nat} {t : Nd} (ht : l[i]? = some t) : (l.take (i + 1)).map (putT x) = (l.take i).map (putT x) ++ [putT x t] := by
  rw [List.take_add_one, ht, List.map_append]; rfl
theorem take_node (x : Nd) {l : List Nd} {i : Nat} {t : Nd} (ht : l[i]? = some t) : (x.node ∈ (l.map (·.node)).take (i + 1)) ↔ (x.node ∈ (l.map (·.node)).take i ∨ x.node = t.node) := by
  rw [List.take_add_one, List.getElem?_map, ht, List.mem_append]; simp
set_option maxRecDepth 100000 in
set_option maxHeartbeats 8000000 in
theorem put_any (o : Option Addr) (l : List Nd) (c : Nat) (x : Nd) (w : World) (hl : NdsAt o l w) (hx : NdAt w x) (hlen : l.length ≤ 3000) (hf : ∀ t ∈ l, t.e.hops.length ≤ 100) (hxl : x.e.hops.length ≤ 100) :
    Calls Tryz.prog 85 #[.slice o l.length c, ndV x] w (NdsPost (putNd l x) w) := by
  have HL := Lib.hid hl
  have HX := Lib.hid hx
  have HN := Lib.hid hlen
  have HF := Lib.hid hf
  have HXL := Lib.hid hxl
  have HFIN : Hid (∀ (W : World) (v : Value) (L : List Nd) (B m : Nat), Below w.heap.size w W → putNd l x = L → L.length = m → W.ownsRow B 151 4 v m (L.flatMap ndC) → ∃ o' c', v = .slice o' m c' ∧ NdsAt o' L W) := fun W v L B m hb hL hm ho => by
    obtain ⟨o', c', e, hr⟩ := own_rows ndC_len ho hm
    refine ⟨o', c', e, hr, fun t ht => ?_⟩
    rw [← hL] at ht
    rcases mem_putNd ht with h | rfl
    · exact (hl.2 t h).below hb
    · exact hx.below hb
  obtain ⟨i0, hi0, hz0, hz1, hz2⟩ := info_parts Tryz.info151
  clear hl hx hlen hf hxl
  show Calls Tryz.prog 85 #[.slice o l.length c, .agg #[.string x.node, .int .i64 x.e.amt, .int .i64 x.e.exp, .slice x.o x.e.hops.length x.c]] w (NdsPost (putNd l x) w)
  go_enter Tryz.func85, Tryz.ntmps85
  go_wp2_with fail
  go_loopw [5, 6, 7] (fun ov mv iv wr => ∃ i : Nat, i ≤ l.length ∧ iv = .int .i64 i ∧ mv = .bool (decide (x.node ∈ (l.map (·.node)).take i)) ∧ Hid (wr.ownsRow (w.heap.size + 1) 151 4 ov i (((l.take i).map (putT x)).flatMap ndC)) ∧ Hid (Below w.heap.size w wr) ∧ Hid (wr.heap[w.heap.size]? = some (.cells #[.string x.node, .int .i64 x.e.amt, .int .i64 x.e.exp, .slice x.o x.e.hops.length x.c] 151 (0, 0)))) (fun _ _ iv _ => l.length - (intOf iv).toNat)
  case atStart => exact ⟨0, Nat.zero_le _, rfl, rfl, World.ownsRow_nil _ _ _ _, below_new' _ _, heap_alloc_at _ _⟩
  case round =>
    obtain ⟨i, hi, rfl, rfl, hO, hB, hK⟩ := hrel
    obtain ⟨oa, oc, rfl⟩ := own_slice hO.out
    have hn := HN.out
    by_cases hlt : i < l.length
    · obtain ⟨t, ht⟩ : ∃ t, l[i]? = some t := ⟨_, List.getElem?_eq_getElem hlt⟩
      obtain ⟨lb, lo, rfl, hc⟩ := rows_at HL.out.1 ht
      have z0 : wr.cell? ⟨lb, lo + i * 4, none⟩ = some (.string t.node) := cell_later' hB.out (hc 0 _ rfl)
      have z1 : wr.cell? ⟨lb, lo + i * 4 + 1, none⟩ = some (.int .i64 t.e.amt) := cell_later' hB.out (hc 1 _ rfl)
      have z2 : wr.cell? ⟨lb, lo + i * 4 + 2, none⟩ = some (.int .i64 t.e.exp) := cell_later' hB.out (hc 2 _ rfl)
      have z3 : wr.cell? ⟨lb, lo + i * 4 + 3, none⟩ = some (.slice t.o t.e.hops.length t.c) := cell_later' hB.out (hc 3 _ rfl)
      have hii : (i : Int) < (l.length : Int) := by omega
      have hii2 : (l.length : Int) ≤ 3000 := by omega
      have htm := List.mem_of_getElem? ht
      have hbs := hB.out.size
      have HTP : Hid ((l.take (i + 1)).map (putT x) = (l.take i).map (putT x) ++ [putT x t]) := take_put x ht
      have HTN : Hid ((x.node ∈ (l.map (·.node)).take (i + 1)) ↔ (x.node ∈ (l.map (·.node)).take i ∨ x.node = t.node)) := take_node x ht
      have HTT := Lib.hid (HL.out.2 t htm)
      have HTL := Lib.hid (HF.out t htm)
      obtain ⟨k0, k1, k2, k3, kl⟩ := cells4 hK.out
      have HB5 : Hid (Below w.heap.size w (wr.alloc (.cells #[.string t.node, .int .i64 t.e.amt, .int .i64 t.e.exp, .slice t.o t.e.hops.length t.c] 151))) := btr hB.out (below_new' wr _)
      have HO5 : Hid (World.ownsRow (wr.alloc (.cells #[.string t.node, .int .i64 t.e.amt, .int .i64 t.e.exp, .slice t.o t.e.hops.length t.c] 151)) (w.heap.size + 1) 151 4 (.slice oa i oc) i (((l.take i).map (putT x)).flatMap ndC)) := World.ownsRow.alloc hO.out _
      have HK5 : Hid (((wr.alloc (.cells #[.string t.node, .int .i64 t.e.amt, .int .i64 t.e.exp, .slice t.o t.e.hops.length t.c] 151))).heap[w.heap.size]? = some (.cells #[.string x.node, .int .i64 x.e.amt, .int .i64 x.e.exp, .slice x.o x.e.hops.length x.c] 151 (0, 0))) := (heap_alloc_old _ _ kl).trans hK.out
      have HY5 : Hid (((wr.alloc (.cells #[.string t.node, .int .i64 t.e.amt, .int .i64 t.e.exp, .slice t.o t.e.hops.length t.c] 151))).heap[wr.heap.size]? = some (.cells #[.string t.node, .int .i64 t.e.amt, .int .i64 t.e.exp, .slice t.o t.e.hops.length t.c] 151 (0, 0))) := heap_alloc_at _ _
      clear hc ht htm
      by_cases hne : t.node = x.node
      · have q1 : t.node.toList = x.node.toList := by rw [hne]
        have hdm : decide (x.node ∈ (l.map (·.node)).take (i + 1)) = true := decide_eq_true (HTN.out.2 (.inr hne.symm))
        have HDM := Lib.hid hdm
        have HBT : Hid (∀ W, Below w.heap.size w W → Calls Tryz.prog 87 #[.agg #[.string x.node, .int .i64 x.e.amt, .int .i64 x.e.exp, .slice x.o x.e.hops.length x.c], .agg #[.string t.node, .int .i64 t.e.amt, .int .i64 t.e.exp, .slice t.o t.e.hops.length t.c]] W fun e w' => e = .returned (.bool (betB x.e t.e)) ∧ Below W.heap.size W w') := fun W h => better_any x t W (HX.out.below h) (HTT.out.below h) HXL.out HTL.out
        have HKN := Lib.hid (fun (W : World) (h : Below ((wr.alloc (.cells #[.string t.node, .int .i64 t.e.amt, .int .i64 t.e.exp, .slice t.o t.e.hops.length t.c] 151))).heap.size ((wr.alloc (.cells #[.string t.node, .int .i64 t.e.amt, .int .i64 t.e.exp, .slice t.o t.e.hops.length t.c] 151))) W) => (h.block _ (lt_of_heap HK5.out)).trans HK5.out)
        have HYN := Lib.hid (fun (W : World) (h : Below ((wr.alloc (.cells #[.string t.node, .int .i64 t.e.amt, .int .i64 t.e.exp, .slice t.o t.e.hops.length t.c] 151))).heap.size ((wr.alloc (.cells #[.string t.node, .int .i64 t.e.amt, .int .i64 t.e.exp, .slice t.o t.e.hops.length t.c] 151))) W) => (h.block _ (lt_of_heap HY5.out)).trans HY5.out)
        have HON := Lib.hid (fun (W : World) (h : Below ((wr.alloc (.cells #[.string t.node, .int .i64 t.e.amt, .int .i64 t.e.exp, .slice t.o t.e.hops.length t.c] 151))).heap.size ((wr.alloc (.cells #[.string t.node, .int .i64 t.e.amt, .int .i64 t.e.exp, .slice t.o t.e.hops.length t.c] 151))) W) => own_below HO5.out h)
        have HBN := Lib.hid (fun (W : World) (h : Below ((wr.alloc (.cells #[.string t.node, .int .i64 t.e.amt, .int .i64 t.e.exp, .slice t.o t.e.hops.length t.c] 151))).heap.size ((wr.alloc (.cells #[.string t.node, .int .i64 t.e.amt, .int .i64 t.e.exp, .slice t.o t.e.hops.length t.c] 151))) W) => btr HB5.out h)
        clear hdm
        cases hbt : betB x.e t.e with
        | true =>
          have HPT : Hid (putT x t = x) := by show _ = _; unfold putT; rw [if_pos ⟨hne, hbt⟩]
          rw [hbt] at HBT
          clear hbt hne HB5 HO5 HK5 HY5
          go_wp2_with (first
            | (go_at_call 87; (with_reducible refine Calls.mono (HBT.out _ (btr hB.out (below_new' wr _))) ?_); rintro e w6 ⟨rfl, hb6⟩; have B6 := Lib.hid (HBN.out _ hb6); have K6 := Lib.hid (HKN.out _ hb6); have Y6 := Lib.hid (HYN.out _ hb6); have O6 := Lib.hid (HON.out _ hb6); obtain ⟨j0, j1, j2, j3, jl⟩ := cells4 K6.out; clear hb6)
            | (refine wpList_store_row rfl 151 (.tmp 8) (.tmp 27) rfl wr.heap.size #[.string x.node, .int .i64 x.e.amt, .int .i64 x.e.exp, .slice x.o x.e.hops.length x.c] rfl rfl 151 _ Y6.out (by kernel_rfl) rfl (by simp [Value.oneCell']) ?_; have Y7 : Hid ((w6.setRow wr.heap.size #[.string x.node, .int .i64 x.e.amt, .int .i64 x.e.exp, .slice x.o x.e.hops.length x.c]).heap[wr.heap.size]? = some (.cells #[.string x.node, .int .i64 x.e.amt, .int .i64 x.e.exp, .slice x.o x.e.hops.length x.c] 151 (0, 0))) := setRow_heap w6 _ _ _ 151 _ Y6.out; have B7 : Hid (Below w.heap.size w (w6.setRow wr.heap.size #[.string x.node, .int .i64 x.e.amt, .int .i64 x.e.exp, .slice x.o x.e.hops.length x.c])) := below_setRow B6.out hbs _; have K7 : Hid ((w6.setRow wr.heap.size #[.string x.node, .int .i64 x.e.amt, .int .i64 x.e.exp, .slice x.o x.e.hops.length x.c]).heap[w.heap.size]? = some (.cells #[.string x.node, .int .i64 x.e.amt, .int .i64 x.e.exp, .slice x.o x.e.hops.length x.c] 151 (0, 0))) := (setRow_other w6 wr.heap.size w.heap.size _ (by omega)).trans K6.out; have O7 : Hid ((w6.setRow wr.heap.size #[.string x.node, .int .i64 x.e.amt, .int .i64 x.e.exp, .slice x.o x.e.hops.length x.c]).ownsRow (w.heap.size + 1) 151 4 (.slice oa i oc) i (((l.take i).map (putT x)).flatMap ndC)) := own_blocks O6.out (fun g hg => setRow_other w6 wr.heap.size g _ (by have := (hO.out.lt g hg).2; omega)); obtain ⟨y0, y1, y2, y3, yl⟩ := cells4 Y7.out)
            | (at_builtin; refine wpList_append_lies _ rfl _ _ _ rfl (w.heap.size + 1) 151 i0 _ 4 56 Tryz.underlying152 hi0 hz0 hz1 hz2 rfl (by omega) (.slice oa i oc) i (((l.take i).map (putT x)).flatMap ndC) rfl (World.ownsRow.alloc O7.out _) ⟨w6.heap.size, 0, none⟩ 1 1 #[.string x.node, .int .i64 x.e.amt, .int .i64 x.e.exp, .slice x.o x.e.hops.length x.c].toList rfl rfl (World.news_of_block (cs := #[.string x.node, .int .i64 x.e.amt, .int .i64 x.e.exp, .slice x.o x.e.hops.length x.c]) (t := 151) (fr := (0, 0)) (by have h := heap_alloc_at (w6.setRow wr.heap.size #[.string x.node, .int .i64 x.e.amt, .int .i64 x.e.exp, .slice x.o x.e.hops.length x.c]) (.cells #[.string x.node, .int .i64 x.e.amt, .int .i64 x.e.exp, .slice x.o x.e.hops.length x.c] 151); simpa [World.setRow] using h)) (by simp [Value.oneCell']) (by omega) (by unfold maxLen; omega) (by omega) (by simp; omega) (w6.heap.size + 1) (by simp) ?_; intro g cap w9 hown9 hgrow9 hat9 hlt9; have B9 : Hid (Below w.heap.size w w9) := grown_belB B7.out (by omega) O7.out hgrow9; have X9 : Hid (w9.heap[w.heap.size]? = some (.cells #[.string x.node, .int .i64 x.e.amt, .int .i64 x.e.exp, .slice x.o x.e.hops.length x.c] 151 (0, 0))) := grown_keepB O7.out hgrow9 K7.out (by omega); have O9 := Lib.hid hown9; clear hown9 hgrow9 hat9 hlt9))
          go_roundw
          case rel => exact ⟨i + 1, hlt, by rw [Int.natCast_succ], by rw [HDM.out], by show World.ownsRow _ _ _ _ _ _ _; rw [HTP.out, HPT.out]; exact own_app_one O9.out, B9.out, X9.out⟩
          case measure => simp only [intOf]; omega
        | false =>
          have HPT : Hid (putT x t = t) := by show _ = _; unfold putT; rw [if_neg (fun h => by rw [hbt] at h; cases h.2)]
          rw [hbt] at HBT
          clear hbt hne HB5 HO5 HK5 HY5
          go_wp2_with (first
            | (go_at_call 87; (with_reducible refine Calls.mono (HBT.out _ (btr hB.out (below_new' wr _))) ?_); rintro e w6 ⟨rfl, hb6⟩; have B6 := Lib.hid (HBN.out _ hb6); have K6 := Lib.hid (HKN.out _ hb6); have Y6 := Lib.hid (HYN.out _ hb6); have O6 := Lib.hid (HON.out _ hb6); obtain ⟨y0, y1, y2, y3, yl⟩ := cells4 Y6.out; clear hb6)
            | (at_builtin; refine wpList_append_lies _ rfl _ _ _ rfl (w.heap.size + 1) 151 i0 _ 4 56 Tryz.underlying152 hi0 hz0 hz1 hz2 rfl (by omega) (.slice oa i oc) i (((l.take i).map (putT x)).flatMap ndC) rfl (World.ownsRow.alloc O6.out _) ⟨w6.heap.size, 0, none⟩ 1 1 #[.string t.node, .int .i64 t.e.amt, .int .i64 t.e.exp, .slice t.o t.e.hops.length t.c].toList rfl rfl (World.news_of_block (cs := #[.string t.node, .int .i64 t.e.amt, .int .i64 t.e.exp, .slice t.o t.e.hops.length t.c]) (t := 151) (fr := (0, 0)) (heap_alloc_at w6 _)) (by simp [Value.oneCell']) (by omega) (by unfold maxLen; omega) (by omega) (by simp; omega) (w6.heap.size + 1) (by simp) ?_; intro g cap w9 hown9 hgrow9 hat9 hlt9; have B9 : Hid (Below w.heap.size w w9) := grown_belB B6.out (by omega) O6.out hgrow9; have X9 : Hid (w9.heap[w.heap.size]? = some (.cells #[.string x.node, .int .i64 x.e.amt, .int .i64 x.e.exp, .slice x.o x.e.hops.length x.c] 151 (0, 0))) := grown_keepB O6.out hgrow9 K6.out (by omega); have O9 := Lib.hid hown9; clear hown9 hgrow9 hat9 hlt9))
          go_roundw
          case rel => exact ⟨i + 1, hlt, by rw [Int.natCast_succ], by rw [HDM.out], by show World.ownsRow _ _ _ _ _ _ _; rw [HTP.out, HPT.out]; exact own_app_one O9.out, B9.out, X9.out⟩
          case measure => simp only [intOf]; omega
      · have q1 := toList_ne hne
        have HPT : Hid (putT x t = t) := by show _ = _; unfold putT; rw [if_neg (fun h => hne h.1)]
        have hdm : decide (x.node ∈ (l.map (·.node)).take (i + 1)) = decide (x.node ∈ (l.map (·.node)).take i) := decide_eq_decide.2 (HTN.out.trans ⟨fun h => h.resolve_right (fun k => hne k.symm), .inl⟩)
        have HDM := Lib.hid hdm
        clear hdm hne
        go_wp2_with (at_builtin; refine wpList_append_lies _ rfl _ _ _ rfl (w.heap.size + 1) 151 i0 _ 4 56 Tryz.underlying152 hi0 hz0 hz1 hz2 rfl (by omega) (.slice oa i oc) i (((l.take i).map (putT x)).flatMap ndC) rfl (World.ownsRow.alloc HO5.out _) ⟨(wr.heap.size + 1), 0, none⟩ 1 1 #[.string t.node, .int .i64 t.e.amt, .int .i64 t.e.exp, .slice t.o t.e.hops.length t.c].toList rfl rfl (World.news_of_block (cs := #[.string t.node, .int .i64 t.e.amt, .int .i64 t.e.exp, .slice t.o t.e.hops.length t.c]) (t := 151) (fr := (0, 0)) (by have h := heap_alloc_at (wr.alloc (.cells #[.string t.node, .int .i64 t.e.amt, .int .i64 t.e.exp, .slice t.o t.e.hops.length t.c] 151)) (.cells #[.string t.node, .int .i64 t.e.amt, .int .i64 t.e.exp, .slice t.o t.e.hops.length t.c] 151); simpa [World.setRow] using h)) (by simp [Value.oneCell']) (by omega) (by unfold maxLen; omega) (by omega) (by simp; omega) ((wr.heap.size + 1) + 1) (by simp) ?_; intro g cap w9 hown9 hgrow9 hat9 hlt9; have B9 : Hid (Below w.heap.size w w9) := grown_belB HB5.out (by omega) HO5.out hgrow9; have X9 : Hid (w9.heap[w.heap.size]? = some (.cells #[.string x.node, .int .i64 x.e.amt, .int .i64 x.e.exp, .slice x.o x.e.hops.length x.c] 151 (0, 0))) := grown_keepB HO5.out hgrow9 HK5.out (by omega); have O9 := Lib.hid hown9; clear hown9 hgrow9 hat9 hlt9)
        go_roundw
        case rel => exact ⟨i + 1, hlt, by rw [Int.natCast_succ], by rw [HDM.out], by show World.ownsRow _ _ _ _ _ _ _; rw [HTP.out, HPT.out]; exact own_app_one O9.out, B9.out, X9.out⟩
        case measure => simp only [intOf]; omega
    · obtain rfl : i = l.length := by omega
      rw [List.take_of_length_le (show (l.map (·.node)).length ≤ l.length by simp)]
      rw [List.take_length] at hO
      by_cases hm : x.node ∈ l.map (·.node)
      · rw [decide_eq_true hm]
        have hp : putNd l x = l.map (putT x) := by unfold putNd; rw [if_pos hm, List.append_nil]
        have HE := Lib.hid (HFIN.out wr _ (l.map (putT x)) _ l.length hB.out hp (List.length_map ..) hO.out)
        have HLN : Hid ((putNd l x).length = l.length) := by show _ = _; rw [hp]; simp
        have HPE := Lib.hid hp
        clear hm hp hlt hi hn
        go_wp2_with fail
        go_ret
        obtain ⟨o', c', e, hh⟩ := HE.out
        cases e
        exact ⟨oa, oc, by rw [HLN.out]; rfl, by rw [HPE.out]; exact hh, hB.out⟩
      · rw [decide_eq_false hm]
        have hp : putNd l x = l.map (putT x) ++ [x] := by unfold putNd; rw [if_neg hm]
        have HPE := Lib.hid hp
        have HLN : Hid ((putNd l x).length = l.length + 1) := by show _ = _; rw [hp]; simp
        obtain ⟨k0, k1, k2, k3, kl⟩ := cells4 hK.out
        clear hm hp hlt hi
        go_wp2_with (at_builtin; refine wpList_append_lies _ rfl _ _ _ rfl (w.heap.size + 1) 151 i0 _ 4 56 Tryz.underlying152 hi0 hz0 hz1 hz2 rfl (by omega) (.slice oa l.length oc) l.length ((l.map (putT x)).flatMap ndC) rfl (World.ownsRow.alloc hO.out _) ⟨wr.heap.size, 0, none⟩ 1 1 #[.string x.node, .int .i64 x.e.amt, .int .i64 x.e.exp, .slice x.o x.e.hops.length x.c].toList rfl rfl (World.news_of_block (cs := #[.string x.node, .int .i64 x.e.amt, .int .i64 x.e.exp, .slice x.o x.e.hops.length x.c]) (t := 151) (fr := (0, 0)) (heap_alloc_at wr _)) (by simp [Value.oneCell']) (by omega) (by unfold maxLen; omega) (by omega) (by simp; omega) (wr.heap.size + 1) (by simp) ?_; intro g cap w9 hown9 hgrow9 hat9 hlt9; have B9 : Hid (Below w.heap.size w w9) := grown_belB hB.out (by omega) hO.out hgrow9; have X9 : Hid (w9.heap[w.heap.size]? = some (.cells #[.string x.node, .int .i64 x.e.amt, .int .i64 x.e.exp, .slice x.o x.e.hops.length x.c] 151 (0, 0))) := grown_keepB hO.out hgrow9 hK.out (by omega); have O9 := Lib.hid hown9; clear hown9 hgrow9 hat9 hlt9)
        go_ret
        obtain ⟨o', c', e, hh⟩ := HFIN.out w9 _ _ _ _ B9.out HPE.out (by simp) (own_app_one O9.out)
        cases e
        exact ⟨_, _, by rw [HLN.out]; rfl, by rw [HPE.out]; exact hh, B9.out⟩
end Go.Proofs.YtbdimlppnhcicaaGreatDoor
