/- The document's digest: bytes filled up. -/
import Derived.Test.YtkhbkckcgfddlaaDoorRC
import Derived.Maps.AppendAt
import Derived.Laws.Append
import Derived.Laws.AppendOwn
namespace Go.Proofs.YtkhbkckcgfddlaaDoor
open Go.RowKit
attribute [local go_sem] match_B run_store_B
theorem bytes_src {w : World} {ad : Addr} {l : List Nat} (hs : BytesAt w (some ad) l) : ∀ j u, (l.map B)[j]? = some u → w.cell? (ad.add j) = some u := by
  intro j u hu
  rw [List.getElem?_map] at hu
  rcases hs with h | ⟨b, off, h, hk⟩
  · subst h; simp at hu
  · cases h
    cases hlj : l[j]? with
    | none => rw [hlj] at hu; cases hu
    | some d =>
      rw [hlj] at hu; cases hu
      rw [Addr.add_lit]; exact hk j d hlj
theorem app_run (w : World) (base : Nat) (v : Value) (n : Nat) (xs : List Value) (hown : w.ownsRow base 5 1 v n xs) (a : Option Addr) (l : List Nat) (c : Nat) (hs : BytesAt w a l) (hn : n + l.length ≤ 140737488355328) (hbase : base ≤ w.heap.size) (ty : TypeId) :
    ∃ v' w', (Builtin.append_ #[22, 22] ty #[v, .slice a l.length c]).run Tryd.prog w = .ok v' w' ∧ w'.ownsRow base 5 1 v' (n + l.length) (xs ++ l.map B) ∧ w.grownBy w' v.ownBlock ∧ (v'.ownBlock = v.ownBlock ∨ v'.ownBlock = some w.heap.size) := by
  obtain ⟨i0, hi0, hz0, hz1, hz2⟩ := info_parts info5
  cases a with
  | none =>
    have hl : l = [] := by
      rcases hs with h | ⟨_, _, h, _⟩
      · exact h
      · cases h
    subst hl
    refine ⟨v, w, ?_, by simpa using hown, World.grownBy.refl w _, .inl rfl⟩
    rcases hown.2 with ⟨rfl, rfl⟩ | ⟨g, cap, cur, rfl, _, _, hnc, _⟩
    · simp [Builtin.append_, run_underlying Tryd.underlying22, sizeOf, typeInfo, hi0, Builtin.lenOf, Builtin.firstCells]
    · simp [Builtin.append_, run_underlying Tryd.underlying22, sizeOf, typeInfo, hi0, Builtin.lenOf, Builtin.firstCells, hnc, storeCells]
  | some ad =>
    obtain ⟨v', w', hrun, h2, h3, _, h5⟩ := run_append_own_at (P := Tryd.prog) w base 22 ty 5 i0 _ 1 1 Tryd.underlying22 hi0 hz0 hz1 hz2 rfl (by omega) v n xs hown ad l.length c (l.map B) (by simp) (bytes_src hs) (B_one l) (by unfold maxLen; omega) (by omega) hbase
    exact ⟨v', w', hrun, h2, h3, h5⟩
theorem wpList_app {ops : Array Oper} {rest : List Oper} {o : Oper} {a : Act} {w : World} {Q : Exit → Act → World → Prop} (hgd : o.guard = none) (s x : Operand)
    (ho : o.op = .call { callee := .builtin .append, args := #[s, x], argTypes := #[22, 22] }) (base : Nat) (v : Value) (n : Nat) (xs : List Value) (hsv : a.eval s = v) (hown : w.ownsRow base 5 1 v n xs)
    (ad : Option Addr) (l : List Nat) (c : Nat) (hx : a.eval x = .slice ad l.length c) (hs : BytesAt w ad l) (hn : n + l.length ≤ 140737488355328) (hbase : base ≤ w.heap.size)
    (h : ∀ v' w', w'.ownsRow base 5 1 v' (n + l.length) (xs ++ l.map B) → w.grownBy w' v.ownBlock → (v'.ownBlock = v.ownBlock ∨ v'.ownBlock = some w.heap.size) → wpList Tryd.prog ops Q rest (a.put o.dst v') w') : wpList Tryd.prog ops Q (o :: rest) a w :=
  wpList_plain hgd fun _ hK => by
    obtain ⟨v', w', hrun, h2, h3, h4⟩ := app_run w base v n xs hown ad l c hs hn hbase o.type
    unfold Oper.wp execOp
    simp only [ho, resolve, invoke, builtin, Sem.run_bind, Sem.run_pure, Result.andThen_ok, List.map_toArray, List.map_cons, List.map_nil, hsv, hx, hrun]
    exact hK _ _ (h v' w' h2 h3 h4)
/-- bytes in a row of the call's own -/
def Own (w : World) (base : Nat) (v : Value) (l : List Nat) : Prop := w.ownsRow base 5 1 v l.length (l.map B)
theorem Own.next {w : World} {base n g cap x : Nat} {l : List Nat} (h : w.ownsRow base 5 1 (.slice (some ⟨g, 0, none⟩) (n + 1) cap) (n + 1) (l.map B ++ [B x])) : Own w base (.slice (some ⟨g, 0, none⟩) (n + 1) cap) (l ++ [x]) := by
  have hl := h.1
  have : n + 1 = (l ++ [x]).length := by simpa using hl.symm
  unfold Own
  rw [← this, List.map_append]
  exact h
def FilledPost (p : List Nat) (w : World) (e : Ending) (w' : World) : Prop := ∃ a c, e = .returned (.slice a (filled p).length c) ∧ Own w' w.heap.size (.slice a (filled p).length c) (filled p) ∧ Below w.heap.size w w'
set_option maxRecDepth 100000 in
set_option maxHeartbeats 4000000 in
theorem filled_any (pa : Option Addr) (p : List Nat) (cap : Nat) (w : World) (hp : BytesAt w pa p) (hl : p.length ≤ 100000) :
    Calls Tryd.prog 15 #[.slice pa p.length cap] w (FilledPost p w) := by
  have HP := Lib.hid hp
  obtain ⟨i0, hi0, hz0, hz1, hz2⟩ := info_parts info5
  obtain ⟨L, hL⟩ : ∃ L, p.length = L := ⟨_, rfl⟩
  have HLL := Lib.hid hL
  rw [hL] at hl ⊢
  have hpd : padZ L < 64 := by unfold padZ; omega
  clear hp hL
  go_enter Tryd.func15, Tryd.ntmps15
  go_wp2_with (first
    | (at_builtin; refine wpList_app rfl (.tmp 6) (.tmp 7) rfl w.heap.size (.slice none 0 0) 0 [] rfl (World.ownsRow_nil _ _ _ _) pa p cap (by rw [HLL.out]; rfl) HP.out (by rw [HLL.out]; omega) (Nat.le_refl _) ?_; intro v1 w1 ho1 hg1 hx1; clear hx1; have B1 : Hid (Below w.heap.size w w1) := ((Below.refl _ _).grown hg1 (Nat.le_refl _) (fun q hq => by cases hq)); have O1 : Hid (w1.ownsRow w.heap.size 5 1 v1 L (p.map B)) := (by (have := ho1; rw [Nat.zero_add, HLL.out, List.nil_append] at this; exact this)); obtain ⟨a1, c1, rfl⟩ := own_slice O1.out; have z1 := B1.out.size; clear ho1 hg1)
    | (at_builtin; refine wpList_append_lies _ rfl (.tmp 9) (.tmp 10) _ rfl w.heap.size 5 i0 _ 1 1 Tryd.underlying22 hi0 hz0 hz1 hz2 rfl (by omega) (.slice a1 L c1) L (p.map B) rfl (O1.out.alloc _) ⟨w1.heap.size, 0, none⟩ 1 1 [B 128] rfl rfl (World.news_of_block (cs := #[B 128]) (t := 5) (fr := (0, 0)) (heap_alloc_at w1 _)) (by simp [B, Value.oneCell']) (by omega) (by unfold maxLen; omega) (by omega) (by simp; omega) (w1.heap.size + 1) (by simp) ?_; intro g2 cap2 w2 hown2 hgrow2 hx1 hx2; clear hx1 hx2; have B2 : Hid (Below w.heap.size w w2) := ((B1.out.alloc z1 _).grown hgrow2 (by simp; omega) (fun g hg => (O1.out.lt g hg).1)); have O2 : Hid (Own w2 w.heap.size (.slice (some ⟨g2, 0, none⟩) (L + 1) cap2) (p ++ [128])) := Own.next hown2; clear hown2 hgrow2))
  obtain ⟨N, hN⟩ : ∃ N, L * 8 = N := ⟨_, rfl⟩
  have hNi : (L : Int) * 8 = (N : Int) := by omega
  have HNN := Lib.hid hN
  clear hN
  go_loopw [3] (fun v wr => ∃ (j : Nat) (a0 : Option Addr) (c0 : Nat), j ≤ padZ L ∧ v = .slice a0 (L + 1 + j) c0 ∧ Hid (wr.ownsRow w.heap.size 5 1 (.slice a0 (L + 1 + j) c0) (L + 1 + j) ((p ++ [128] ++ List.replicate j 0).map B)) ∧ Hid (Below w.heap.size w wr)) (fun v _ => L + 1 + padZ L - lenV v)
  case atStart => exact ⟨0, some ⟨g2, 0, none⟩, cap2, Nat.zero_le _, rfl, (by have := O2.out; unfold Own at this; rw [List.length_append, HLL.out] at this; show World.ownsRow _ _ _ _ _ _ _; simpa using this), B2.out⟩
  case round =>
    obtain ⟨j, a0, c0, hj, rfl, hO, hB⟩ := hrel
    have zB := hB.out.size
    obtain ⟨M, hM⟩ : ∃ M, L + 1 + j = M := ⟨_, rfl⟩
    have HM := Lib.hid hM
    rw [hM] at hO
    by_cases hlt : j < padZ L
    · have hm0 := pad_lt hlt
      have hm1 : ((M : Int) % 64 != 56) = true := by rw [bne_iff_ne]; omega
      have hMb : M ≤ 100100 := by omega
      rw [hM]
      clear hm0 hM hNi
      go_wp2_with (at_builtin; refine wpList_append_lies _ rfl (.tmp 16) (.tmp 17) _ rfl w.heap.size 5 i0 _ 1 1 Tryd.underlying22 hi0 hz0 hz1 hz2 rfl (by omega) (.slice a0 M c0) M ((p ++ [128] ++ List.replicate j 0).map B) rfl (hO.out.alloc _) ⟨wr.heap.size, 0, none⟩ 1 1 [B 0] rfl rfl (World.news_of_block (cs := #[B 0]) (t := 5) (fr := (0, 0)) (heap_alloc_at wr _)) (by simp [B, Value.oneCell']) (by omega) (by unfold maxLen; omega) (by omega) (by simp; omega) (wr.heap.size + 1) (by simp) ?_; intro g3 cap3 w3 hown3 hgrow3 hx1 hx2; clear hx1 hx2; have B3 : Hid (Below w.heap.size w w3) := ((hB.out.alloc zB _).grown hgrow3 (by simp; omega) (fun g hg => (hO.out.lt g hg).1)); have O3 := Lib.hid hown3; clear hown3 hgrow3)
      go_roundw
      case rel => exact ⟨j + 1, some ⟨g3, 0, none⟩, cap3, by omega, by congr 1; have := HM.out; omega, by have := O3.out; rw [show L + 1 + (j + 1) = M + 1 by have := HM.out; omega, List.replicate_succ', ← List.append_assoc, List.map_append]; exact this, B3.out⟩
      case measure => have := HM.out; simp only [lenV]; omega
    · obtain rfl : j = padZ L := by omega
      have hm0 := pad_at L
      have hm1 : ((M : Int) % 64 != 56) = false := by rw [bne_eq_false_iff_eq]; omega
      have hMb : M ≤ 100100 := by omega
      obtain ⟨H, hH⟩ : ∃ H, p ++ [128] ++ List.replicate (padZ L) 0 = H := ⟨_, rfl⟩
      have HH := Lib.hid hH
      rw [hH] at hO
      rw [hM]
      clear hm0 hM hH
      obtain ⟨w4, rfl⟩ : ∃ w4 : World, w4 = wr := ⟨_, rfl⟩
      go_wp2_with fail
      go_loopw [3, 5] (fun v iv wr => ∃ (j : Nat) (a0 : Option Addr) (c0 : Nat) (z : Int), j ≤ 8 ∧ v = .slice a0 (M + j) c0 ∧ z = 56 - 8 * (j : Int) ∧ iv = .int .i64 z ∧ Hid (wr.ownsRow w.heap.size 5 1 (.slice a0 (M + j) c0) (M + j) ((H ++ (be8 N).take j).map B)) ∧ Hid (Below w.heap.size w wr)) (fun v _ _ => M + 8 - lenV v)
      case atStart => exact ⟨0, a0, c0, 56, by omega, rfl, by omega, rfl, by rw [List.take_zero, List.append_nil]; exact hO.out, hB.out⟩
      case round =>
        clear hO hB zB
        obtain ⟨j, a0, c0, z, hj, rfl, hz, rfl, hO, hB⟩ := hrel
        have zB := hB.out.size
        by_cases hlt : j < 8
        · have hc : j = 0 ∨ j = 1 ∨ j = 2 ∨ j = 3 ∨ j = 4 ∨ j = 5 ∨ j = 6 ∨ j = 7 := by omega
          clear hNi hm1
          rcases hc with rfl | rfl | rfl | rfl | rfl | rfl | rfl | rfl
          · obtain rfl : z = 56 := by omega
            obtain ⟨x, hx⟩ : ∃ x, N / 2 ^ 56 % 256 = x := ⟨_, rfl⟩
            have e0 : (N : Int) / 72057594037927936 % 256 = (x : Int) := by omega
            have HX : Hid ((be8 N).take 1 = (be8 N).take 0 ++ [x]) := by show _ = _; rw [← hx]; rfl
            have E0 := Lib.hid e0
            clear hz
            clear hx e0
            go_wp2_with (at_builtin; refine wpList_append_lies _ rfl (.tmp 27) (.tmp 32) _ rfl w.heap.size 5 i0 _ 1 1 Tryd.underlying22 hi0 hz0 hz1 hz2 rfl (by omega) (.slice a0 (M + 0) c0) (M + 0) ((H ++ (be8 N).take 0).map B) rfl (hO.out.alloc _) ⟨wr.heap.size, 0, none⟩ 1 1 [.int .u8 ((N : Int) / 72057594037927936 % 256)] rfl rfl (World.news_of_block (cs := #[.int .u8 ((N : Int) / 72057594037927936 % 256)]) (t := 5) (fr := (0, 0)) (heap_alloc_at wr _)) (by simp [Value.oneCell']) (by omega) (by unfold maxLen; omega) (by omega) (by simp; omega) (wr.heap.size + 1) (by simp) ?_; intro g3 cap3 w3 hown3 hgrow3 hx1 hx2; clear hx1 hx2; have B3 : Hid (Below w.heap.size w w3) := ((hB.out.alloc zB _).grown hgrow3 (by simp; omega) (fun g hg => (hO.out.lt g hg).1)); have O3 := Lib.hid hown3; clear hown3 hgrow3)
            go_roundw
            case rel => exact ⟨1, some ⟨g3, 0, none⟩, cap3, 56-8, by omega, rfl, by omega, by go_num, by have := O3.out; rw [E0.out] at this; rw [HX.out, ← List.append_assoc, List.map_append]; exact this, B3.out⟩
            case measure => first | (simp only [lenV]; omega) | (simp [lenV]; done) | (simp [lenV]; omega)
          · obtain rfl : z = 48 := by omega
            obtain ⟨x, hx⟩ : ∃ x, N / 2 ^ 48 % 256 = x := ⟨_, rfl⟩
            have e0 : (N : Int) / 281474976710656 % 256 = (x : Int) := by omega
            have HX : Hid ((be8 N).take 2 = (be8 N).take 1 ++ [x]) := by show _ = _; rw [← hx]; rfl
            have E0 := Lib.hid e0
            clear hz
            clear hx e0
            go_wp2_with (at_builtin; refine wpList_append_lies _ rfl (.tmp 27) (.tmp 32) _ rfl w.heap.size 5 i0 _ 1 1 Tryd.underlying22 hi0 hz0 hz1 hz2 rfl (by omega) (.slice a0 (M + 1) c0) (M + 1) ((H ++ (be8 N).take 1).map B) rfl (hO.out.alloc _) ⟨wr.heap.size, 0, none⟩ 1 1 [.int .u8 ((N : Int) / 281474976710656 % 256)] rfl rfl (World.news_of_block (cs := #[.int .u8 ((N : Int) / 281474976710656 % 256)]) (t := 5) (fr := (0, 0)) (heap_alloc_at wr _)) (by simp [Value.oneCell']) (by omega) (by unfold maxLen; omega) (by omega) (by simp; omega) (wr.heap.size + 1) (by simp) ?_; intro g3 cap3 w3 hown3 hgrow3 hx1 hx2; clear hx1 hx2; have B3 : Hid (Below w.heap.size w w3) := ((hB.out.alloc zB _).grown hgrow3 (by simp; omega) (fun g hg => (hO.out.lt g hg).1)); have O3 := Lib.hid hown3; clear hown3 hgrow3)
            go_roundw
            case rel => exact ⟨2, some ⟨g3, 0, none⟩, cap3, 48-8, by omega, rfl, by omega, by go_num, by have := O3.out; rw [E0.out] at this; rw [HX.out, ← List.append_assoc, List.map_append]; exact this, B3.out⟩
            case measure => first | (simp only [lenV]; omega) | (simp [lenV]; done) | (simp [lenV]; omega)
          · obtain rfl : z = 40 := by omega
            obtain ⟨x, hx⟩ : ∃ x, N / 2 ^ 40 % 256 = x := ⟨_, rfl⟩
            have e0 : (N : Int) / 1099511627776 % 256 = (x : Int) := by omega
            have HX : Hid ((be8 N).take 3 = (be8 N).take 2 ++ [x]) := by show _ = _; rw [← hx]; rfl
            have E0 := Lib.hid e0
            clear hz
            clear hx e0
            go_wp2_with (at_builtin; refine wpList_append_lies _ rfl (.tmp 27) (.tmp 32) _ rfl w.heap.size 5 i0 _ 1 1 Tryd.underlying22 hi0 hz0 hz1 hz2 rfl (by omega) (.slice a0 (M + 2) c0) (M + 2) ((H ++ (be8 N).take 2).map B) rfl (hO.out.alloc _) ⟨wr.heap.size, 0, none⟩ 1 1 [.int .u8 ((N : Int) / 1099511627776 % 256)] rfl rfl (World.news_of_block (cs := #[.int .u8 ((N : Int) / 1099511627776 % 256)]) (t := 5) (fr := (0, 0)) (heap_alloc_at wr _)) (by simp [Value.oneCell']) (by omega) (by unfold maxLen; omega) (by omega) (by simp; omega) (wr.heap.size + 1) (by simp) ?_; intro g3 cap3 w3 hown3 hgrow3 hx1 hx2; clear hx1 hx2; have B3 : Hid (Below w.heap.size w w3) := ((hB.out.alloc zB _).grown hgrow3 (by simp; omega) (fun g hg => (hO.out.lt g hg).1)); have O3 := Lib.hid hown3; clear hown3 hgrow3)
            go_roundw
            case rel => exact ⟨3, some ⟨g3, 0, none⟩, cap3, 40-8, by omega, rfl, by omega, by go_num, by have := O3.out; rw [E0.out] at this; rw [HX.out, ← List.append_assoc, List.map_append]; exact this, B3.out⟩
            case measure => first | (simp only [lenV]; omega) | (simp [lenV]; done) | (simp [lenV]; omega)
          · obtain rfl : z = 32 := by omega
            obtain ⟨x, hx⟩ : ∃ x, N / 2 ^ 32 % 256 = x := ⟨_, rfl⟩
            have e0 : (N : Int) / 4294967296 % 256 = (x : Int) := by omega
            have HX : Hid ((be8 N).take 4 = (be8 N).take 3 ++ [x]) := by show _ = _; rw [← hx]; rfl
            have E0 := Lib.hid e0
            clear hz
            clear hx e0
            go_wp2_with (at_builtin; refine wpList_append_lies _ rfl (.tmp 27) (.tmp 32) _ rfl w.heap.size 5 i0 _ 1 1 Tryd.underlying22 hi0 hz0 hz1 hz2 rfl (by omega) (.slice a0 (M + 3) c0) (M + 3) ((H ++ (be8 N).take 3).map B) rfl (hO.out.alloc _) ⟨wr.heap.size, 0, none⟩ 1 1 [.int .u8 ((N : Int) / 4294967296 % 256)] rfl rfl (World.news_of_block (cs := #[.int .u8 ((N : Int) / 4294967296 % 256)]) (t := 5) (fr := (0, 0)) (heap_alloc_at wr _)) (by simp [Value.oneCell']) (by omega) (by unfold maxLen; omega) (by omega) (by simp; omega) (wr.heap.size + 1) (by simp) ?_; intro g3 cap3 w3 hown3 hgrow3 hx1 hx2; clear hx1 hx2; have B3 : Hid (Below w.heap.size w w3) := ((hB.out.alloc zB _).grown hgrow3 (by simp; omega) (fun g hg => (hO.out.lt g hg).1)); have O3 := Lib.hid hown3; clear hown3 hgrow3)
            go_roundw
            case rel => exact ⟨4, some ⟨g3, 0, none⟩, cap3, 32-8, by omega, rfl, by omega, by go_num, by have := O3.out; rw [E0.out] at this; rw [HX.out, ← List.append_assoc, List.map_append]; exact this, B3.out⟩
            case measure => first | (simp only [lenV]; omega) | (simp [lenV]; done) | (simp [lenV]; omega)
          · obtain rfl : z = 24 := by omega
            obtain ⟨x, hx⟩ : ∃ x, N / 2 ^ 24 % 256 = x := ⟨_, rfl⟩
            have e0 : (N : Int) / 16777216 % 256 = (x : Int) := by omega
            have HX : Hid ((be8 N).take 5 = (be8 N).take 4 ++ [x]) := by show _ = _; rw [← hx]; rfl
            have E0 := Lib.hid e0
            clear hz
            clear hx e0
            go_wp2_with (at_builtin; refine wpList_append_lies _ rfl (.tmp 27) (.tmp 32) _ rfl w.heap.size 5 i0 _ 1 1 Tryd.underlying22 hi0 hz0 hz1 hz2 rfl (by omega) (.slice a0 (M + 4) c0) (M + 4) ((H ++ (be8 N).take 4).map B) rfl (hO.out.alloc _) ⟨wr.heap.size, 0, none⟩ 1 1 [.int .u8 ((N : Int) / 16777216 % 256)] rfl rfl (World.news_of_block (cs := #[.int .u8 ((N : Int) / 16777216 % 256)]) (t := 5) (fr := (0, 0)) (heap_alloc_at wr _)) (by simp [Value.oneCell']) (by omega) (by unfold maxLen; omega) (by omega) (by simp; omega) (wr.heap.size + 1) (by simp) ?_; intro g3 cap3 w3 hown3 hgrow3 hx1 hx2; clear hx1 hx2; have B3 : Hid (Below w.heap.size w w3) := ((hB.out.alloc zB _).grown hgrow3 (by simp; omega) (fun g hg => (hO.out.lt g hg).1)); have O3 := Lib.hid hown3; clear hown3 hgrow3)
            go_roundw
            case rel => exact ⟨5, some ⟨g3, 0, none⟩, cap3, 24-8, by omega, rfl, by omega, by go_num, by have := O3.out; rw [E0.out] at this; rw [HX.out, ← List.append_assoc, List.map_append]; exact this, B3.out⟩
            case measure => first | (simp only [lenV]; omega) | (simp [lenV]; done) | (simp [lenV]; omega)
          · obtain rfl : z = 16 := by omega
            obtain ⟨x, hx⟩ : ∃ x, N / 2 ^ 16 % 256 = x := ⟨_, rfl⟩
            have e0 : (N : Int) / 65536 % 256 = (x : Int) := by omega
            have HX : Hid ((be8 N).take 6 = (be8 N).take 5 ++ [x]) := by show _ = _; rw [← hx]; rfl
            have E0 := Lib.hid e0
            clear hz
            clear hx e0
            go_wp2_with (at_builtin; refine wpList_append_lies _ rfl (.tmp 27) (.tmp 32) _ rfl w.heap.size 5 i0 _ 1 1 Tryd.underlying22 hi0 hz0 hz1 hz2 rfl (by omega) (.slice a0 (M + 5) c0) (M + 5) ((H ++ (be8 N).take 5).map B) rfl (hO.out.alloc _) ⟨wr.heap.size, 0, none⟩ 1 1 [.int .u8 ((N : Int) / 65536 % 256)] rfl rfl (World.news_of_block (cs := #[.int .u8 ((N : Int) / 65536 % 256)]) (t := 5) (fr := (0, 0)) (heap_alloc_at wr _)) (by simp [Value.oneCell']) (by omega) (by unfold maxLen; omega) (by omega) (by simp; omega) (wr.heap.size + 1) (by simp) ?_; intro g3 cap3 w3 hown3 hgrow3 hx1 hx2; clear hx1 hx2; have B3 : Hid (Below w.heap.size w w3) := ((hB.out.alloc zB _).grown hgrow3 (by simp; omega) (fun g hg => (hO.out.lt g hg).1)); have O3 := Lib.hid hown3; clear hown3 hgrow3)
            go_roundw
            case rel => exact ⟨6, some ⟨g3, 0, none⟩, cap3, 16-8, by omega, rfl, by omega, by go_num, by have := O3.out; rw [E0.out] at this; rw [HX.out, ← List.append_assoc, List.map_append]; exact this, B3.out⟩
            case measure => first | (simp only [lenV]; omega) | (simp [lenV]; done) | (simp [lenV]; omega)
          · obtain rfl : z = 8 := by omega
            obtain ⟨x, hx⟩ : ∃ x, N / 2 ^ 8 % 256 = x := ⟨_, rfl⟩
            have e0 : (N : Int) / 256 % 256 = (x : Int) := by omega
            have HX : Hid ((be8 N).take 7 = (be8 N).take 6 ++ [x]) := by show _ = _; rw [← hx]; rfl
            have E0 := Lib.hid e0
            clear hz
            clear hx e0
            go_wp2_with (at_builtin; refine wpList_append_lies _ rfl (.tmp 27) (.tmp 32) _ rfl w.heap.size 5 i0 _ 1 1 Tryd.underlying22 hi0 hz0 hz1 hz2 rfl (by omega) (.slice a0 (M + 6) c0) (M + 6) ((H ++ (be8 N).take 6).map B) rfl (hO.out.alloc _) ⟨wr.heap.size, 0, none⟩ 1 1 [.int .u8 ((N : Int) / 256 % 256)] rfl rfl (World.news_of_block (cs := #[.int .u8 ((N : Int) / 256 % 256)]) (t := 5) (fr := (0, 0)) (heap_alloc_at wr _)) (by simp [Value.oneCell']) (by omega) (by unfold maxLen; omega) (by omega) (by simp; omega) (wr.heap.size + 1) (by simp) ?_; intro g3 cap3 w3 hown3 hgrow3 hx1 hx2; clear hx1 hx2; have B3 : Hid (Below w.heap.size w w3) := ((hB.out.alloc zB _).grown hgrow3 (by simp; omega) (fun g hg => (hO.out.lt g hg).1)); have O3 := Lib.hid hown3; clear hown3 hgrow3)
            go_roundw
            case rel => exact ⟨7, some ⟨g3, 0, none⟩, cap3, 8-8, by omega, rfl, by omega, by go_num, by have := O3.out; rw [E0.out] at this; rw [HX.out, ← List.append_assoc, List.map_append]; exact this, B3.out⟩
            case measure => first | (simp only [lenV]; omega) | (simp [lenV]; done) | (simp [lenV]; omega)
          · obtain rfl : z = 0 := by omega
            obtain ⟨x, hx⟩ : ∃ x, N % 256 = x := ⟨_, rfl⟩
            have e0 : (N : Int) % 256 = (x : Int) := by omega
            have HX : Hid ((be8 N).take 8 = (be8 N).take 7 ++ [x]) := by show _ = _; rw [← hx]; rfl
            have E0 := Lib.hid e0
            clear hz
            clear hx e0
            go_wp2_with (at_builtin; refine wpList_append_lies _ rfl (.tmp 27) (.tmp 32) _ rfl w.heap.size 5 i0 _ 1 1 Tryd.underlying22 hi0 hz0 hz1 hz2 rfl (by omega) (.slice a0 (M + 7) c0) (M + 7) ((H ++ (be8 N).take 7).map B) rfl (hO.out.alloc _) ⟨wr.heap.size, 0, none⟩ 1 1 [.int .u8 ((N : Int) % 256)] rfl rfl (World.news_of_block (cs := #[.int .u8 ((N : Int) % 256)]) (t := 5) (fr := (0, 0)) (heap_alloc_at wr _)) (by simp [Value.oneCell']) (by omega) (by unfold maxLen; omega) (by omega) (by simp; omega) (wr.heap.size + 1) (by simp) ?_; intro g3 cap3 w3 hown3 hgrow3 hx1 hx2; clear hx1 hx2; have B3 : Hid (Below w.heap.size w w3) := ((hB.out.alloc zB _).grown hgrow3 (by simp; omega) (fun g hg => (hO.out.lt g hg).1)); have O3 := Lib.hid hown3; clear hown3 hgrow3)
            go_roundw
            case rel => exact ⟨8, some ⟨g3, 0, none⟩, cap3, 0-8, by omega, rfl, by omega, by go_num, by have := O3.out; rw [E0.out] at this; rw [HX.out, ← List.append_assoc, List.map_append]; exact this, B3.out⟩
            case measure => first | (simp only [lenV]; omega) | (simp [lenV]; done) | (simp [lenV]; omega)
        · obtain rfl : j = 8 := by omega
          obtain rfl : z = -8 := by omega
          have HF : Hid (H ++ (be8 N).take 8 = filled p) := by
            show _ = _
            unfold filled
            rw [← HH.out, HLL.out, HNN.out]; rfl
          have HFL : Hid ((filled p).length = M + 8) := by
            show _ = _
            rw [← HF.out, ← HH.out]
            have h1 := HM.out
            have h2 := HLL.out
            simp [be8]
            omega
          go_wp2_with fail
          go_ret
          refine ⟨a0, c0, by rw [HFL.out]; rfl, ?_, hB.out⟩
          unfold Own
          rw [HFL.out, ← HF.out]
          exact hO.out
end Go.Proofs.YtkhbkckcgfddlaaDoor
