/- wire: the document's Decode -/
import Derived.Test.YtakfhoodjcfpcaaDoorWrJ
namespace Go.Proofs.YtakfhoodjcfpcaaDoor.T
set_option linter.unusedVariables false
set_option maxRecDepth 100000
open Go.RowKit Tlv Wire
/-! wire: the document's Decode -/
theorem RSd.fr {S : Nat → Prop} {W0 w w' : World} {rb : Nat} {s : St} (h : RSd W0 w rb s) (hf : Fr S w w') (hs : ¬ S rb) (hS : ∀ k, k < W0.heap.size → ¬ S k) : RSd W0 w' rb s := by
  obtain ⟨a, c, h⟩ := h
  exact ⟨a, c, h.fr hf hs hS⟩
theorem dec_roundr {w w3 w4 W w5 : World} {rb mb E size n n' : Nat} {v v' : Value} {xs xs' : List Value} {q : St} {c0 c1 c2 c3 c4 c5 : Value} (hlt : rb < mb) (hB : mb < w3.heap.size) (hR : RSd w w4 rb q) (hF : Fr (Two rb mb) w3 w4) (ho : w4.ownsRow w3.heap.size E size v n xs) (hW : Below w4.heap.size w4 W) (hg : W.grownBy w5 v.ownBlock)
    (ho5 : w5.ownsRow w3.heap.size E size v' n' xs') (hm5 : MC w5 mb #[c0, c1, c2, c3, c4, c5]) (x : Value) :
    (∀ k, RSd w (w5.setCell ⟨mb, k, none⟩ x) rb q ∧ Fr (Two rb mb) w3 (w5.setCell ⟨mb, k, none⟩ x) ∧ (w5.setCell ⟨mb, k, none⟩ x).ownsRow w3.heap.size E size v' n' xs' ∧ ∀ (b E2 s2 n2 : Nat) (v2 : Value) (x2 : List Value), mb < b → b ≤ w3.heap.size → (∀ g, v2.ownBlock = some g → g < w3.heap.size) → w4.ownsRow b E2 s2 v2 n2 x2 → (w5.setCell ⟨mb, k, none⟩ x).ownsRow b E2 s2 v2 n2 x2) ∧
    MC (w5.setCell ⟨mb, 2, none⟩ x) mb #[c0, c1, x, c3, c4, c5] ∧ MC (w5.setCell ⟨mb, 3, none⟩ x) mb #[c0, c1, c2, x, c4, c5] := by
  have hf : ∀ k, Fr (fun i => i = mb ∨ w3.heap.size ≤ i) w4 (w5.setCell ⟨mb, k, none⟩ x) := fun k => ((Fr.below hW).trans (fr_grown hg (fun g e => .inr (ho.lt g e).1))).set _ _ _ (.inl rfl)
  have hrb : w.heap.size ≤ rb := by obtain ⟨_, _, h⟩ := hR; exact h.base
  refine ⟨fun k => ⟨hR.fr (hf k) (by omega) (fun i hi => by omega), fr_over hF (hf k) (fun i hi hs => .inr (by omega)), ?_, ?_⟩, ?_, ?_⟩
  · exact ownsRow_blocks ho5 (fun g hg' => Below.heap_setCell _ _ _ _ (fun e => by have := (ho5.lt g hg').1; subst e; omega))
  · intro b E2 s2 n2 v2 x2 h1 h2 h3 h4
    exact ownsRow_blocks h4 (fun g hg' => (hf k).block g (h4.lt g hg').2 (by have := (h4.lt g hg').1; have := h3 g hg'; omega))
  · show (w5.setCell _ _).heap[mb]? = _
    rw [heap_setCell_same _ _ _ _ _ _ hm5]; rfl
  · show (w5.setCell _ _).heap[mb]? = _
    rw [heap_setCell_same _ _ _ _ _ _ hm5]; rfl
theorem terms_nextr {n n3 : Nat} {q q3 : St} {L : List ByteArray} (h : termsS true n3 q3 = (L ++ (termsS true (n + 1) q).1, (termsS true (n + 1) q).2)) (hb : q.bad = false) : termsS true n3 q3 = ((L ++ [ba (textS true q).1]) ++ (termsS true n (textS true q).2).1, (termsS true n (textS true q).2).2) := by
  rw [h, termsS, if_neg (by rw [hb]; decide)]
  simp
theorem terms_endr {n n3 : Nat} {q q3 : St} {L : List ByteArray} (h : termsS true n3 q3 = (L ++ (termsS true n q).1, (termsS true n q).2)) (hb : n = 0 ∨ q.bad = true) : termsS true n3 q3 = (L, q) := by
  rw [h]
  cases n with
  | zero => simp [termsS]
  | succ n =>
    have hb : q.bad = true := by rcases hb with h | h; omega; exact h
    rw [termsS, if_pos hb]
    simp
theorem terms_leftr {q : St} {L : List ByteArray} {B : Nat} (x : ByteArray) (hb : q.bad = false) (h1 : L.length + q.l.length ≤ B) : (L ++ [x]).length ≤ B + 1 ∧ ((textS true q).2.bad = false → (L ++ [x]).length + (textS true q).2.l.length ≤ B) := by
  rw [List.length_append, List.length_singleton]
  refine ⟨by omega, fun h => ?_⟩
  unfold textS at h ⊢
  have h2 := takeS_le (countS true q).1 (countS true q).2
  by_cases hg : (getN q.l).2.2 = 0
  · obtain ⟨k1, k2, _⟩ := get_size q.l hg
    have e : (countS true q).2.l = q.l.drop (getN q.l).2.1 := by unfold countS; rw [if_neg (by rintro (h | h); (rw [hb] at h; cases h); exact h hg)]
    rw [e, List.length_drop] at h2
    omega
  · have e : countS true q = (0, ⟨q.l, true⟩) := by unfold countS; rw [if_pos (.inr hg)]
    rw [e] at h
    have := take_bad 0 ⟨q.l, true⟩ rfl
    dsimp only at h
    rw [this] at h; cases h
theorem termsS_manyr : ∀ (n : Nat) (s : St), (termsS true n s).1.length ≤ s.l.length + 1
  | 0, s => Nat.zero_le _
  | n + 1, s => by
    rw [termsS]
    cases hb : s.bad with
    | true => rw [if_pos rfl]; exact Nat.zero_le _
    | false =>
      rw [if_neg (by decide)]
      have h1 := terms_leftr (q := s) (L := []) (B := s.l.length) ⟨#[]⟩ hb (by simp)
      show (termsS true n (textS true s).2).1.length + 1 ≤ _
      cases hb2 : (textS true s).2.bad with
      | true =>
        have : (termsS true n (textS true s).2).1 = [] := by cases n with
          | zero => rfl
          | succ n => rw [termsS, if_pos hb2]
        rw [this]; exact Nat.succ_le_succ (Nat.zero_le _)
      | false =>
        have h2 := h1.2 hb2
        have h3 := termsS_manyr n (textS true s).2
        simp only [List.nil_append, List.length_singleton] at h2
        omega
theorem termsS_ler : ∀ (n : Nat) (s : St), (termsS true n s).2.l.length ≤ s.l.length
  | 0, s => Nat.le_refl _
  | n + 1, s => by
    rw [termsS]
    split
    · exact Nat.le_refl _
    · exact Nat.le_trans (termsS_ler n _) (textS_len true s)
theorem termsS_outr : ∀ (n : Nat) (s : St), ∀ t ∈ (termsS true n s).1, t.size ≤ s.l.length
  | 0, s, t, h => by cases h
  | n + 1, s, t, h => by
    rw [termsS] at h
    split at h
    · cases h
    · rcases List.mem_cons.1 h with rfl | h
      · rw [ba_size]; exact textS_out true s
      · exact Nat.le_trans (termsS_outr n _ t h) (textS_len true s)
theorem mb_decr (l : List UInt8) (hl : l.length ≤ 32768) {n1 n3 n5 : Nat} {c2 x7 : List UInt8} {N4 : List Int} {T6 : List ByteArray} {q1 q2 q3 q4 q5 q6 q7 : St} (e1 : numS 2 ⟨l, false⟩ = (n1, q1)) (e2 : textS true q1 = (c2, q2)) (e3 : countS true q2 = (n3, q3)) (e4 : numsS n3 q3 = (N4, q4)) (e5 : countS true q4 = (n5, q5)) (e6 : termsS true n5 q5 = (T6, q6)) (e7 : textS true q6 = (x7, q7)) :
    MB ⟨n1, ba c2, N4, T6, ba x7, (recordsN q7.l).1⟩ ∧ bodies (recordsN q7.l).1 ≤ l.length := by
  have k1 := numS_le 2 ⟨l, false⟩
  have k2 := textS_len true q1
  have j2 := textS_out true q1
  have k3 := countS_le true q2
  have k4 := numsS_le n3 q3
  have j4 := numsS_many n3 q3
  have k5 := countS_le true q4
  have k6 := termsS_ler n5 q5
  have j6 := termsS_manyr n5 q5
  have i6 := termsS_outr n5 q5
  have k7 := textS_len true q6
  have j7 := textS_out true q6
  rw [e1] at k1; rw [e2] at k2 j2; rw [e3] at k3; rw [e4] at k4 j4; rw [e5] at k5; rw [e6] at k6 j6 i6; rw [e7] at k7 j7
  dsimp only at k1 k2 j2 k3 k4 j4 k5 k6 j6 i6 k7 j7
  obtain ⟨r1, r2, r3⟩ := recs_bound q7.l
  refine ⟨⟨?_, ?_, ?_, ?_, ?_, ?_, r3, ?_⟩, by omega⟩
  · show (ba c2).size ≤ _; rw [ba_size]; omega
  · show (ba x7).size ≤ _; rw [ba_size]; omega
  · show N4.length ≤ _; omega
  · show T6.length ≤ _; omega
  · intro t ht; have := i6 t ht; omega
  · show (recordsN q7.l).1.length ≤ _; omega
  · intro r hr; have := body_le (L := (recordsN q7.l).1) hr; omega
theorem dec_formr (l : List UInt8) (hl : l.length ≤ 32768) {n1 n3 n5 : Nat} {c2 x7 : List UInt8} {N4 : List Int} {T6 : List ByteArray} {q1 q2 q3 q4 q5 q6 q7 : St} (e1 : numS 2 ⟨l, false⟩ = (n1, q1)) (e2 : textS true q1 = (c2, q2)) (e3 : countS true q2 = (n3, q3)) (e4 : numsS n3 q3 = (N4, q4)) (e5 : countS true q4 = (n5, q5)) (e6 : termsS true n5 q5 = (T6, q6)) (e7 : textS true q6 = (x7, q7)) :
    Wire.decN R true l = if q7.bad = true ∨ (recordsN q7.l).2 ≠ 0 ∨ mayN R ⟨n1, ba c2, N4, T6, ba x7, (recordsN q7.l).1⟩ = false then (no, 80) else (⟨n1, ba c2, N4, T6, ba x7, (recordsN q7.l).1⟩, 0) := by
  unfold Wire.decN
  rw [if_neg (by omega)]
  simp only [decM, s7, s6, s5, s4, s3, s2, s1, e1, e2, e3, e4, e5, e6, e7]
/-- a field of the message is set -/
theorem set_step {w w1 : World} {rb mb ob : Nat} {q : St} {c0 c1 c2 c3 c4 c5 : Value} {zs : Array Value} (hlt0 : ob < rb) (hlt : rb < mb) (hr : RSd w w1 rb q) (hm : MC w1 mb #[c0, c1, c2, c3, c4, c5]) (ho : MC w1 ob zs) (x : Value) :
    (∀ k, RSd w (w1.setCell ⟨mb, k, none⟩ x) rb q ∧ MC (w1.setCell ⟨mb, k, none⟩ x) ob zs ∧ Fr (fun i => i = mb) w1 (w1.setCell ⟨mb, k, none⟩ x)) ∧ MC (w1.setCell ⟨mb, 0, none⟩ x) mb #[x, c1, c2, c3, c4, c5] ∧ MC (w1.setCell ⟨mb, 1, none⟩ x) mb #[c0, x, c2, c3, c4, c5] ∧ MC (w1.setCell ⟨mb, 4, none⟩ x) mb #[c0, c1, c2, c3, x, c5] ∧ MC (w1.setCell ⟨mb, 5, none⟩ x) mb #[c0, c1, c2, c3, c4, x] := by
  have hrb : w.heap.size ≤ rb := by obtain ⟨_, _, h⟩ := hr; exact h.base
  have hf : ∀ k, Fr (fun i => i = mb) w1 (w1.setCell ⟨mb, k, none⟩ x) := fun k => (Fr.refl _ _).set _ _ _ rfl
  refine ⟨fun k => ⟨hr.fr (hf k) (by omega) (fun i hi => by omega), ho.fr (hf k) (by omega), hf k⟩, ?_, ?_, ?_, ?_⟩
  all_goals
    show (w1.setCell _ _).heap[mb]? = _
    rw [heap_setCell_same _ _ _ _ _ _ hm]; rfl
set_option maxHeartbeats 4000000 in
theorem decoder_big (a : Option Addr) (c : Nat) (l : List UInt8) (w : World) (hl : 32768 < l.length) (hc : l.length ≤ c) (hm : c ≤ maxLen) : Calls Tryd.prog 17 #[.slice a l.length c] w (DecPost (Wire.decN R false l) w) := by
  have hD : Wire.decN R false l = (no, 3) := by unfold Wire.decN; rw [if_pos hl]
  have hli : (32768 : Int) < (l.length : Int) := by omega
  unfold maxLen at hm
  obtain ⟨D, hDD⟩ : ∃ D, Wire.decN R false l = D := ⟨_, rfl⟩
  have HD := Lib.hid hD
  rw [hDD]
  have HDD := Lib.hid hDD
  clear hD hDD
  go_enter Tryd.func17, Tryd.ntmps17
  go_wp2_with fail
  refine bodyPost_ret (v := .tuple #[.agg #[.int .u16 0, .string ⟨#[]⟩, .slice none 0 0, .slice none 0 0, .string ⟨#[]⟩, .slice none 0 0], .int .i64 3]) (by simp [results, Tryd.results17, go_sem]) rfl ?_
  rw [← HDD.out]
  exact dec_no_post HD.out (below_new w _)
set_option maxHeartbeats 16000000 in
theorem decoder_few (a : Option Addr) (c : Nat) (l : List UInt8) (w : World) (hl : l.length ≤ 4000) (hc : l.length ≤ c) (hm : c ≤ maxLen) (hs : Src w a l) (hn : a = none → c = 0) : Calls Tryd.prog 17 #[.slice a l.length c] w (DecPost (Wire.decN R false l) w) := by
  have hli : (l.length : Int) ≤ 4000 := by omega
  rw [← dec_chk R true l]
  obtain ⟨n1, q1, e1⟩ : ∃ n q, numS 2 ⟨l, false⟩ = (n, q) := ⟨_, _, rfl⟩
  obtain ⟨c2, q2, e2⟩ : ∃ n q, textS true q1 = (n, q) := ⟨_, _, rfl⟩
  obtain ⟨n3, q3, e3⟩ : ∃ n q, countS true q2 = (n, q) := ⟨_, _, rfl⟩
  obtain ⟨N4, q4, e4⟩ : ∃ n q, numsS n3 q3 = (n, q) := ⟨_, _, rfl⟩
  obtain ⟨n5, q5, e5⟩ : ∃ n q, countS true q4 = (n, q) := ⟨_, _, rfl⟩
  obtain ⟨T6, q6, e6⟩ : ∃ n q, termsS true n5 q5 = (n, q) := ⟨_, _, rfl⟩
  obtain ⟨x7, q7, e7⟩ : ∃ n q, textS true q6 = (n, q) := ⟨_, _, rfl⟩
  have HD := Lib.hid (dec_formr l (by omega) e1 e2 e3 e4 e5 e6 e7)
  obtain ⟨D, hDD⟩ : ∃ D, Wire.decN R true l = D := ⟨_, rfl⟩
  rw [hDD] at HD ⊢
  have HQ3 : Hid (q3.l.length ≤ l.length) := by
    show _ ≤ _
    have h1 := numS_le 2 ⟨l, false⟩
    rw [e1] at h1
    have h2 := textS_len true q1
    rw [e2] at h2
    have h3 := countS_le true q2
    rw [e3] at h3
    dsimp only at h1 h2 h3
    omega
  have HN3 : Hid (n3 < 18446744073709551616) := by have := countS_lt true q2; rw [e3] at this; exact this
  have HN5 : Hid (n5 < 18446744073709551616) := by have := countS_lt true q4; rw [e5] at this; exact this
  have HQ5 : Hid (q5.l.length ≤ l.length) := by
    show _ ≤ _
    have h0 := HQ3.out
    have h1 := numsS_le n3 q3
    rw [e4] at h1
    have h2 := countS_le true q4
    rw [e5] at h2
    dsimp only at h1 h2
    omega
  have HMB : Hid (MB ⟨n1, ba c2, N4, T6, ba x7, (recordsN q7.l).1⟩ ∧ bodies (recordsN q7.l).1 ≤ 4000) := by
    have h := mb_decr l (by omega) e1 e2 e3 e4 e5 e6 e7
    exact ⟨h.1, Nat.le_trans h.2 hl⟩
  have hk1 : (n1 : Int) < 65536 := by have := num2_lt e1; omega
  have hk0 : (0 : Int) ≤ (n1 : Int) := by omega
  have hwk : IntKind.u16.wrap (n1 : Int) = (n1 : Int) := by
    unfold IntKind.wrap
    have e1 : (2 : Int) ^ IntKind.u16.bits = 65536 := by decide
    simp [IntKind.signed, e1]
    omega
  have hW1 : Below w.heap.size w (w.alloc (.cells #[.int .u16 0, .string ⟨#[]⟩, .slice none 0 0, .slice none 0 0, .string ⟨#[]⟩, .slice none 0 0] 27)) := below_new w _
  have hW2 : Below w.heap.size w ((w.alloc (.cells #[.int .u16 0, .string ⟨#[]⟩, .slice none 0 0, .slice none 0 0, .string ⟨#[]⟩, .slice none 0 0] 27)).alloc (.cells #[.slice a l.length c, .bool true] 84)) := hW1.alloc (by simp) _
  have hW3 : Below w.heap.size w (((w.alloc (.cells #[.int .u16 0, .string ⟨#[]⟩, .slice none 0 0, .slice none 0 0, .string ⟨#[]⟩, .slice none 0 0] 27)).alloc (.cells #[.slice a l.length c, .bool true] 84)).alloc (.cells #[.int .u16 0, .string ⟨#[]⟩, .slice none 0 0, .slice none 0 0, .string ⟨#[]⟩, .slice none 0 0] 27)) := hW2.alloc (by simp; omega) _
  have hk2 : ((w.alloc (.cells #[.int .u16 0, .string ⟨#[]⟩, .slice none 0 0, .slice none 0 0, .string ⟨#[]⟩, .slice none 0 0] 27)).alloc (.cells #[.slice a l.length c, .bool true] 84)).heap[w.heap.size + 1]? = some (.cells #[.slice a l.length c, .bool true] 84 (0, 0)) := by
    have := heap_alloc_at (w.alloc (.cells #[.int .u16 0, .string ⟨#[]⟩, .slice none 0 0, .slice none 0 0, .string ⟨#[]⟩, .slice none 0 0] 27)) (.cells #[.slice a l.length c, .bool true] 84); simpa using this
  have hk3 : (((w.alloc (.cells #[.int .u16 0, .string ⟨#[]⟩, .slice none 0 0, .slice none 0 0, .string ⟨#[]⟩, .slice none 0 0] 27)).alloc (.cells #[.slice a l.length c, .bool true] 84)).alloc (.cells #[.int .u16 0, .string ⟨#[]⟩, .slice none 0 0, .slice none 0 0, .string ⟨#[]⟩, .slice none 0 0] 27)).heap[w.heap.size + 2]? = some (.cells #[.int .u16 0, .string ⟨#[]⟩, .slice none 0 0, .slice none 0 0, .string ⟨#[]⟩, .slice none 0 0] 27 (0, 0)) := by
    have := heap_alloc_at ((w.alloc (.cells #[.int .u16 0, .string ⟨#[]⟩, .slice none 0 0, .slice none 0 0, .string ⟨#[]⟩, .slice none 0 0] 27)).alloc (.cells #[.slice a l.length c, .bool true] 84)) (.cells #[.int .u16 0, .string ⟨#[]⟩, .slice none 0 0, .slice none 0 0, .string ⟨#[]⟩, .slice none 0 0] 27); simpa using this
  have hR0 : RSd w (((w.alloc (.cells #[.int .u16 0, .string ⟨#[]⟩, .slice none 0 0, .slice none 0 0, .string ⟨#[]⟩, .slice none 0 0] 27)).alloc (.cells #[.slice a l.length c, .bool true] 84)).alloc (.cells #[.int .u16 0, .string ⟨#[]⟩, .slice none 0 0, .slice none 0 0, .string ⟨#[]⟩, .slice none 0 0] 27)) (w.heap.size + 1) ⟨l, false⟩ :=
    ⟨a, c, ((below_new _ _).block _ (lt_of_heap hk2)).trans hk2, hs, hc, hm, hn, hW3, by omega⟩
  have hO0 : MC (((w.alloc (.cells #[.int .u16 0, .string ⟨#[]⟩, .slice none 0 0, .slice none 0 0, .string ⟨#[]⟩, .slice none 0 0] 27)).alloc (.cells #[.slice a l.length c, .bool true] 84)).alloc (.cells #[.int .u16 0, .string ⟨#[]⟩, .slice none 0 0, .slice none 0 0, .string ⟨#[]⟩, .slice none 0 0] 27)) w.heap.size #[.int .u16 0, .string ⟨#[]⟩, .slice none 0 0, .slice none 0 0, .string ⟨#[]⟩, .slice none 0 0] :=
    MC.later (MC.later (heap_alloc_at w _) (below_new _ _)) (below_new _ _)
  have hM0 : MC (((w.alloc (.cells #[.int .u16 0, .string ⟨#[]⟩, .slice none 0 0, .slice none 0 0, .string ⟨#[]⟩, .slice none 0 0] 27)).alloc (.cells #[.slice a l.length c, .bool true] 84)).alloc (.cells #[.int .u16 0, .string ⟨#[]⟩, .slice none 0 0, .slice none 0 0, .string ⟨#[]⟩, .slice none 0 0] 27)) (w.heap.size + 2) #[.int .u16 0, .string ⟨#[]⟩, .slice none 0 0, .slice none 0 0, .string ⟨#[]⟩, .slice none 0 0] := hk3
  have E1 := Lib.hid e1; have E2 := Lib.hid e2; have E3 := Lib.hid e3; have E4 := Lib.hid e4; have E5 := Lib.hid e5; have E6 := Lib.hid e6; have E7 := Lib.hid e7
  obtain ⟨i0, hi0, hz0, hz1, hz2⟩ := info_parts Tryd.info2
  obtain ⟨j0, hj0, hy0, hy1, hy2⟩ := info_parts Tryd.info49
  have HR0 := Lib.hid hR0; have HO0 := Lib.hid hO0; have HM0 := Lib.hid hM0
  clear hk1 hDD hs hn hR0 hO0 hM0 hW1 hW2 hW3 hk2 hk3 e1 e2 e3 e4 e5 e6 e7
  unfold maxLen at hm
  go_enter Tryd.func17, Tryd.ntmps17
  go_upto_region 5 with fail
  obtain ⟨mb, hmb⟩ : ∃ mb, w.heap.size + 2 = mb := ⟨_, rfl⟩
  obtain ⟨rb, hrb⟩ : ∃ rb, w.heap.size + 1 = rb := ⟨_, rfl⟩
  obtain ⟨ob, hob⟩ : ∃ ob, w.heap.size = ob := ⟨_, rfl⟩
  have HRB := Lib.hid hrb; have HOB := Lib.hid hob
  have hlt0 : ob < rb := by omega
  have hlt2 : rb < mb := by omega
  generalize (((w.alloc (.cells #[.int .u16 0, .string ⟨#[]⟩, .slice none 0 0, .slice none 0 0, .string ⟨#[]⟩, .slice none 0 0] 27)).alloc (.cells #[.slice a l.length c, .bool true] 84)).alloc (.cells #[.int .u16 0, .string ⟨#[]⟩, .slice none 0 0, .slice none 0 0, .string ⟨#[]⟩, .slice none 0 0] 27)) = w0 at HR0 HO0 HM0
  rw [hmb] at HM0
  rw [hrb] at HR0
  rw [hob] at HO0
  have HLT2 := Lib.hid hlt2; have HLT0 := Lib.hid hlt0
  try rw [hmb]
  try rw [hrb]
  try rw [hob]
  clear hmb hrb hob hlt2 hlt0
  have HK1 := num2r w rb ⟨l, false⟩ w0 HR0.out
  unfold NmPostr at HK1
  have e1 := E1.out
  rw [e1] at HK1
  have HK := Lib.hid HK1
  clear HK1 e1
  go_upto_region 6 with (go_at_call 38; (with_reducible refine Calls.mono HK.out ?_); rintro e w1 ⟨rfl, hr1, hf1⟩; have hm1 := HM0.out.fr hf1 (by have := HLT2.out; unfold At; omega); obtain ⟨d10, _, _, _, _, _⟩ := hm1.cells; have f10 : w1.frozen? ⟨mb, 0, none⟩ = false := frozen_of_row _ _ _ _ _ hm1; have HO1 := Lib.hid (HO0.out.fr hf1 (by have := HLT0.out; unfold At; omega)); have HM1 := Lib.hid hm1; have HR1 := Lib.hid hr1; clear hm1 hr1 hf1)
  have hst := set_step HLT0.out HLT2.out HR1.out HM1.out HO1.out (.int .u16 (n1 : Int))
  obtain ⟨hr1', ho1', _⟩ := hst.1 0
  have hm1' := hst.2.1
  clear d10 f10 hst HK
  generalize w1.setCell ⟨mb, 0, none⟩ (.int .u16 (n1 : Int)) = w1b at hr1' ho1' hm1'
  have HR1b := Lib.hid hr1'; have HO1b := Lib.hid ho1'; have HM1b := Lib.hid hm1'
  have HT2 := textS_anyr w rb q1 w1b hr1'
  unfold TxPostr at HT2
  have e2 := E2.out
  rw [e2] at HT2
  have HT2' := Lib.hid HT2
  clear HT2 e2 hr1' ho1' hm1' HR0 HO0 HM0 HR1 HO1 HM1
  go_upto_region 7 with (go_at_call 39; (with_reducible refine Calls.mono HT2'.out ?_); rintro e w2 ⟨rfl, hr2, hf2⟩; have hm2 := HM1b.out.fr hf2 (by have := HLT2.out; unfold At; omega); obtain ⟨_, d21, _, _, _, _⟩ := hm2.cells; have f21 : w2.frozen? ⟨mb, 1, none⟩ = false := frozen_of_row _ _ _ _ _ hm2; have HO2 := Lib.hid (HO1b.out.fr hf2 (by have := HLT0.out; unfold At; omega)); have HM2 := Lib.hid hm2; have HR2 := Lib.hid hr2; clear hm2 hr2 hf2)
  have hst := set_step HLT0.out HLT2.out HR2.out HM2.out HO2.out (.string (ba c2))
  obtain ⟨hr2', ho2', _⟩ := hst.1 1
  have hm2' := hst.2.2.1
  clear d21 f21 hst HT2'
  generalize w2.setCell ⟨mb, 1, none⟩ (.string (ba c2)) = w2b at hr2' ho2' hm2'
  have HR2b := Lib.hid hr2'; have HO2b := Lib.hid ho2'; have HM2b := Lib.hid hm2'
  have HC3 := countS_anyr w rb q2 w2b hr2'
  unfold CtPostr at HC3
  have e3 := E3.out
  rw [e3] at HC3
  have HC3' := Lib.hid HC3
  clear HC3 e3 hr2' ho2' hm2' HR1b HO1b HM1b HR2 HO2 HM2
  go_upto_block 0 with (go_at_call 40; (with_reducible refine Calls.mono HC3'.out ?_); rintro e w3 ⟨rfl, hr3, hf3⟩; have HM3 := Lib.hid (HM2b.out.fr hf3 (by have := HLT2.out; unfold At; omega)); have HO3 := Lib.hid (HO2b.out.fr hf3 (by have := HLT0.out; unfold At; omega)); have HR3 := Lib.hid hr3; clear hr3 hf3)
  have HZ3 : Hid (mb < w3.heap.size) := lt_of_heap HM3.out
  clear HC3' HR2b HO2b HM2b
  go_cut [7, 8] from 30 to 49 (fun _ _ wx => ∃ v, Hid (RSd w wx rb q4) ∧ Hid (MC wx mb #[.int .u16 (n1 : Int), .string (ba c2), v, .slice none 0 0, .string ⟨#[]⟩, .slice none 0 0]) ∧ Hid (Fr (Two rb mb) w3 wx) ∧ Hid (OwnN wx w3.heap.size v N4))
  case first =>
    go_wp2_with fail
    go_loopw [7, 8] (fun nv _ wr => ∃ (i : Nat) (q : St) (L : List Int) (v : Value), nv = .int .u64 i ∧ Hid (i ≤ n3) ∧ Hid (RSd w wr rb q) ∧ Hid (MC wr mb #[.int .u16 (n1 : Int), .string (ba c2), v, .slice none 0 0, .string ⟨#[]⟩, .slice none 0 0]) ∧ Hid (Fr (Two rb mb) w3 wr) ∧ Hid (OwnN wr w3.heap.size v L) ∧ Hid (numsS n3 q3 = (L ++ (numsS (n3 - i) q).1, (numsS (n3 - i) q).2)) ∧ Hid (L.length ≤ l.length + 1) ∧ Hid (q.bad = false → L.length + q.l.length ≤ l.length)) (fun nv _ _ => n3 - (intOf nv).toNat)
    case atStart => exact ⟨0, q3, [], .slice none 0 0, rfl, Nat.zero_le _, HR3.out, HM3.out, Fr.refl _ _, World.ownsRow_nil _ _ _ _, by show _ = _; simp, Nat.zero_le _, fun _ => by show 0 + q3.l.length ≤ _; have := HQ3.out; omega⟩
    case round =>
      obtain ⟨i, q, L, v, rfl, hi, hr, hmc, hf, ho, he, hL1, hL2⟩ := hrel
      obtain ⟨a0, c0, rfl⟩ := own_slice ho.out
      obtain ⟨ra, rc, hrs⟩ := hr.out
      have x1 : wr.cell? ⟨rb, 1, none⟩ = some (.bool (!q.bad)) := by rw [cell_of_row _ _ _ _ _ _ hrs.row]; rfl
      have hEND : (n3 - i = 0 ∨ q.bad = true) → Hid (N4 = L ∧ q4 = q) := fun h => by
        have h1 := nums_end he.out h
        rw [E4.out] at h1
        cases h1
        exact ⟨rfl, rfl⟩
      have hi0' := hi.out
      have hii : (i : Int) ≤ (n3 : Int) := by omega
      by_cases hn0 : i = n3
      · obtain ⟨rfl, rfl⟩ := (hEND (.inl (by omega))).out
        subst hn0
        clear hEND hrs
        go_wp2_with fail
        go_meet
        case rel => exact ⟨_, hr, hmc, hf, ho⟩
      · have hnp : (i : Int) < (n3 : Int) := by omega
        cases hb : q.bad with
        | true =>
          obtain ⟨rfl, rfl⟩ := (hEND (.inr hb)).out
          rw [hb] at x1
          clear hEND hrs hb
          go_wp2_with fail
          go_meet
          case rel => exact ⟨_, hr, hmc, hf, ho⟩
        | false =>
          rw [hb] at x1
          have he' := he.out
          rw [show n3 - i = (n3 - (i + 1)) + 1 by omega] at he'
          have HNX := Lib.hid (nums_next he' hb)
          have HK := num8r w rb q wr hr.out
          unfold NmPostr at HK
          have HLF := Lib.hid (fun x => nums_left (B := l.length) (L := L) x hb (hL2.out hb))
          obtain ⟨x, q', hx⟩ : ∃ x q', numS 8 q = (x, q') := ⟨_, _, rfl⟩
          rw [hx] at HK HNX
          simp only [hx] at HLF
          have HB := Lib.hid hb
          obtain ⟨z, hz⟩ : ∃ z, i64 x = z := ⟨_, rfl⟩
          rw [hz] at HNX
          have hcx : IntKind.i64.wrap (x : Int) = z := hz
          have HK' := Lib.hid HK
          obtain ⟨_, _, d2, d3, _, _⟩ := hmc.out.cells
          have hwm : IntKind.u64.wrap ((i : Int) + 1) = (i : Int) + 1 := u64_nat (i + 1) (Nat.lt_of_le_of_lt (show i + 1 ≤ n3 by omega) HN3.out)
          have hL1' : L.length ≤ 4001 := by have := hL1.out; omega
          clear HK hb hz hEND hx hrs he'
          go_wp2_with (first
            | (go_at_call 38; (with_reducible refine Calls.mono HK'.out ?_); rintro e w4 ⟨rfl, hr4, hf4⟩; have hm4 := hmc.out.fr hf4 (by have := HLT2.out; unfold At; omega); obtain ⟨_, _, d2', d3', _, _⟩ := hm4.cells; have hz4 := lt_of_heap hm4; have HR4 := Lib.hid hr4; have HF4 := Lib.hid hf4; have HM4 := Lib.hid hm4; have HO4 := Lib.hid (own_at ho.out hf4 (Nat.lt_trans HLT2.out HZ3.out)); have hz34 := Nat.le_trans hf.out.size hf4.size; clear hr4 hf4 hm4)
            | (at_builtin; refine wpList_append_lies _ rfl _ _ _ rfl w3.heap.size 2 i0 _ 1 8 Tryd.underlying23 hi0 hz0 hz1 hz2 rfl (by omega) (.slice a0 L.length c0) L.length (L.map (Value.int .i64)) rfl (HO4.out.alloc _) ⟨w4.heap.size, 0, none⟩ 1 1 [.int .i64 z] rfl rfl (World.news_of_block (cs := #[.int .i64 z]) (t := 2) (fr := (0, 0)) (heap_alloc_at w4 _)) (by simp [Value.oneCell']) (by omega) (by unfold maxLen; omega) (by omega) (by simp; omega) (w4.heap.size + 1) (by simp) ?_; intro g cap w5 hown5 hgrow5 hat5 hlt5; have HO5 := Lib.hid hown5; have HG5 := Lib.hid hgrow5; obtain ⟨hm5, d52, d53, f52, f53⟩ := app_mc (below_new w4 _) HM4.out HO4.out HZ3.out hgrow5; have HM5 := Lib.hid hm5; clear hown5 hgrow5 hm5))
          go_roundw
          case rel =>
            have hf4 := fr_over hf.out HF4.out (fun i _ h => Or.inl h)
            obtain ⟨h1, h2, h3⟩ := dec_roundr HLT2.out HZ3.out HR4.out hf4 HO4.out (below_new w4 _) HG5.out HO5.out HM5.out (.slice (some ⟨g, 0, none⟩) (L.length + 1) cap)
            obtain ⟨k1, k2, k3, k4⟩ := h1 2
            obtain ⟨b1, b2⟩ := HLF.out z
            exact ⟨i + 1, q', L ++ [z], _, by go_num, (show i + 1 ≤ n3 by omega), k1, h2, k2, ownN_snoc k3, HNX.out, b1, b2⟩
          case measure => (first | (simp [intOf]; done) | (simp [intOf]; omega))
  case rest =>
    obtain ⟨v, hr, hmc, hf, ho⟩ := hcut
    obtain ⟨na, nc, rfl⟩ := own_slice ho.out
    have HC5 := countS_anyr w rb q4 wc hr.out
    unfold CtPostr at HC5
    have e5 := E5.out
    rw [e5] at HC5
    have HC5' := Lib.hid HC5
    clear e5 HC5
    go_upto_block 2 with (go_at_call 40; (with_reducible refine Calls.mono HC5'.out ?_); rintro e w6 ⟨rfl, hr6, hf6⟩; have HR6 := Lib.hid hr6; have HF6 := Lib.hid hf6; clear hr6 hf6)
    have HM6 := Lib.hid (hmc.out.fr HF6.out (by have := HLT2.out; unfold At; omega))
    have HON6 := Lib.hid (own_at ho.out HF6.out (Nat.lt_trans HLT2.out HZ3.out))
    have HF36 := Lib.hid (fr_over hf.out HF6.out (fun i _ h => Or.inl h))
    have HZ36 : Hid (w3.heap.size ≤ w6.heap.size) := HF36.out.size
    have HZ6 : Hid (mb < w6.heap.size) := Nat.lt_of_lt_of_le HZ3.out HZ36.out
    have HNB : Hid (∀ g, (Value.slice na N4.length nc).ownBlock = some g → g < w6.heap.size) := fun g hg => (HON6.out.lt g hg).2
    clear hr hmc hf ho HC5'
    go_cut [10, 11] from 52 to 70 (fun _ _ wx => ∃ v, Hid (OwnN wx w3.heap.size (.slice na N4.length nc) N4) ∧ Hid (RSd w wx rb q6) ∧ Hid (MC wx mb #[.int .u16 (n1 : Int), .string (ba c2), .slice na N4.length nc, v, .string ⟨#[]⟩, .slice none 0 0]) ∧ Hid (Fr (Two rb mb) w6 wx) ∧ Hid (OwnT wx w6.heap.size v T6))
    case first =>
      go_wp2_with fail
      go_loopw [10, 11] (fun nv _ wr => ∃ (i : Nat) (q : St) (L : List ByteArray) (v : Value), nv = .int .u64 i ∧ Hid (i ≤ n5) ∧ Hid (OwnN wr w3.heap.size (.slice na N4.length nc) N4) ∧ Hid (RSd w wr rb q) ∧ Hid (MC wr mb #[.int .u16 (n1 : Int), .string (ba c2), .slice na N4.length nc, v, .string ⟨#[]⟩, .slice none 0 0]) ∧ Hid (Fr (Two rb mb) w6 wr) ∧ Hid (OwnT wr w6.heap.size v L) ∧ Hid (termsS true n5 q5 = (L ++ (termsS true (n5 - i) q).1, (termsS true (n5 - i) q).2)) ∧ Hid (L.length ≤ l.length + 1) ∧ Hid (q.bad = false → L.length + q.l.length ≤ l.length)) (fun nv _ _ => n5 - (intOf nv).toNat)
      case atStart => exact ⟨0, q5, [], .slice none 0 0, rfl, Nat.zero_le _, HON6.out, HR6.out, HM6.out, Fr.refl _ _, World.ownsRow_nil _ _ _ _, by show _ = _; simp, Nat.zero_le _, fun _ => by show 0 + q5.l.length ≤ _; have := HQ5.out; omega⟩
      case round =>
        obtain ⟨i, q, L, v, rfl, hi, hon, hr, hmc, hf, ho, he, hL1, hL2⟩ := hrel
        obtain ⟨a0, c0, rfl⟩ := own_slice ho.out
        obtain ⟨ra, rc, hrs⟩ := hr.out
        have x1 : wr.cell? ⟨rb, 1, none⟩ = some (.bool (!q.bad)) := by rw [cell_of_row _ _ _ _ _ _ hrs.row]; rfl
        have hEND : (n5 - i = 0 ∨ q.bad = true) → Hid (T6 = L ∧ q6 = q) := fun h => by
          have h1 := terms_endr he.out h
          rw [E6.out] at h1
          cases h1
          exact ⟨rfl, rfl⟩
        have hi0' := hi.out
        have hii : (i : Int) ≤ (n5 : Int) := by omega
        by_cases hn0 : i = n5
        · obtain ⟨rfl, rfl⟩ := (hEND (.inl (by omega))).out
          subst hn0
          clear hEND hrs
          go_wp2_with fail
          go_meet
          case rel => exact ⟨_, hon, hr, hmc, hf, ho⟩
        · have hnp : (i : Int) < (n5 : Int) := by omega
          cases hb : q.bad with
          | true =>
            obtain ⟨rfl, rfl⟩ := (hEND (.inr hb)).out
            rw [hb] at x1
            clear hEND hrs hb
            go_wp2_with fail
            go_meet
            case rel => exact ⟨_, hon, hr, hmc, hf, ho⟩
          | false =>
            rw [hb] at x1
            have he' := he.out
            rw [show n5 - i = (n5 - (i + 1)) + 1 by omega] at he'
            have HNX := Lib.hid (terms_nextr he' hb)
            have HK := textS_anyr w rb q wr hr.out
            unfold TxPostr at HK
            have HLF := Lib.hid (fun x => terms_leftr (B := l.length) (L := L) x hb (hL2.out hb))
            obtain ⟨x, q', hx⟩ : ∃ x q', textS true q = (x, q') := ⟨_, _, rfl⟩
            rw [hx] at HK HNX
            simp only [hx] at HLF
            have HB := Lib.hid hb
            obtain ⟨z, hz⟩ : ∃ z, ba x = z := ⟨_, rfl⟩
            rw [hz] at HNX
            rw [hz] at HK
            have HK' := Lib.hid HK
            obtain ⟨_, _, d2, d3, _, _⟩ := hmc.out.cells
            have hwm : IntKind.u64.wrap ((i : Int) + 1) = (i : Int) + 1 := u64_nat (i + 1) (Nat.lt_of_le_of_lt (show i + 1 ≤ n5 by omega) HN5.out)
            have hL1' : L.length ≤ 4001 := by have := hL1.out; omega
            clear HK hb hz hEND hx hrs he'
            go_wp2_with (first
              | (go_at_call 39; (with_reducible refine Calls.mono HK'.out ?_); rintro e w4 ⟨rfl, hr4, hf4⟩; have hm4 := hmc.out.fr hf4 (by have := HLT2.out; unfold At; omega); obtain ⟨_, _, d2', d3', _, _⟩ := hm4.cells; have hz4 := lt_of_heap hm4; have HR4 := Lib.hid hr4; have HF4 := Lib.hid hf4; have HM4 := Lib.hid hm4; have HO4 := Lib.hid (own_at ho.out hf4 (Nat.lt_trans HLT2.out HZ6.out)); have hz34 := Nat.le_trans hf.out.size hf4.size; clear hr4 hf4 hm4)
              | (at_builtin; refine wpList_append_lies _ rfl _ _ _ rfl w6.heap.size 49 j0 _ 1 16 Tryd.underlying24 hj0 hy0 hy1 hy2 rfl (by omega) (.slice a0 L.length c0) L.length (L.map Value.string) rfl (HO4.out.alloc _) ⟨w4.heap.size, 0, none⟩ 1 1 [.string z] rfl rfl (World.news_of_block (cs := #[.string z]) (t := 49) (fr := (0, 0)) (heap_alloc_at w4 _)) (by simp [Value.oneCell']) (by omega) (by unfold maxLen; omega) (by omega) (by simp; omega) (w4.heap.size + 1) (by simp) ?_; intro g cap w5 hown5 hgrow5 hat5 hlt5; have HO5 := Lib.hid hown5; have HG5 := Lib.hid hgrow5; obtain ⟨hm5, d52, d53, f52, f53⟩ := app_mc (below_new w4 _) HM4.out HO4.out HZ6.out hgrow5; have HM5 := Lib.hid hm5; clear hown5 hgrow5 hm5))
            go_roundw
            case rel =>
              have hf4 := fr_over hf.out HF4.out (fun i _ h => Or.inl h)
              obtain ⟨h1, h2, h3⟩ := dec_roundr HLT2.out HZ6.out HR4.out hf4 HO4.out (below_new w4 _) HG5.out HO5.out HM5.out (.slice (some ⟨g, 0, none⟩) (L.length + 1) cap)
              obtain ⟨k1, k2, k3, k4⟩ := h1 3
              obtain ⟨b1, b2⟩ := HLF.out z
              exact ⟨i + 1, q', L ++ [z], _, by go_num, (show i + 1 ≤ n5 by omega), k4 _ _ _ _ _ _ HZ3.out HZ36.out HNB.out (own_at hon.out HF4.out (Nat.lt_trans HLT2.out HZ3.out)), k1, h3, k2, ownT_snoc k3, HNX.out, b1, b2⟩
            case measure => (first | (simp [intOf]; done) | (simp [intOf]; omega))
    case rest =>
      obtain ⟨v, hon, hr, hmc, hf, ho⟩ := hcut
      obtain ⟨ta, tc, rfl⟩ := own_slice ho.out
      have HT7 := textS_anyr w rb q6 wc hr.out
      unfold TxPostr at HT7
      have e7 := E7.out
      rw [e7] at HT7
      have HT7' := Lib.hid HT7
      clear e7 HT7
      go_upto_region 20 with (go_at_call 39; (with_reducible refine Calls.mono HT7'.out ?_); rintro e w7 ⟨rfl, hr7, hf7⟩; have hm7 := hmc.out.fr hf7 (by have := HLT2.out; unfold At; omega); obtain ⟨_, _, _, _, d74, _⟩ := hm7.cells; have f74 : w7.frozen? ⟨mb, 4, none⟩ = false := frozen_of_row _ _ _ _ _ hm7; have HM7 := Lib.hid hm7; have HR7 := Lib.hid hr7; have HF7 := Lib.hid hf7; clear hm7 hr7 hf7)
      have hFc8 : Fr (Two rb mb) wc (w7.setCell ⟨mb, 4, none⟩ (.string (ba x7))) := (Fr.weak' HF7.out (fun _ h => Or.inl h)).set _ _ _ (.inr rfl)
      have hm8 : MC (w7.setCell ⟨mb, 4, none⟩ (.string (ba x7))) mb #[.int .u16 (n1 : Int), .string (ba c2), .slice na N4.length nc, .slice ta T6.length tc, .string (ba x7), .slice none 0 0] := by
        show (w7.setCell _ _).heap[mb]? = _
        rw [heap_setCell_same _ _ _ _ _ _ HM7.out]; rfl
      have hr8 : RSd w (w7.setCell ⟨mb, 4, none⟩ (.string (ba x7))) rb q7 := HR7.out.fr (S := fun k => k = mb) ((Fr.refl _ _).set _ _ _ rfl) (by have := HLT2.out; omega) (fun k hk => by have := HLT2.out; have := HRB.out; omega)
      clear d74 f74
      generalize w7.setCell ⟨mb, 4, none⟩ (.string (ba x7)) = w8 at hFc8 hm8 hr8
      have HF38 : Hid (Fr (Two rb mb) w3 w8) := (HF36.out.trans hf.out).trans hFc8
      have HO8 : Hid (MC w8 ob _) := HO3.out.fr HF38.out (by have := HLT2.out; have := HLT0.out; unfold Two; omega)
      have HON8 : Hid (OwnN w8 w3.heap.size (.slice na N4.length nc) N4) := own_fr hon.out hFc8 (fun k hk => by have := HLT2.out; have := HZ3.out; unfold Two at hk; omega)
      have HOT8 : Hid (OwnT w8 w6.heap.size (.slice ta T6.length tc) T6) := own_fr ho.out hFc8 (fun k hk => by have := HLT2.out; have := HZ6.out; unfold Two at hk; omega)
      have HM8 := Lib.hid hm8; have HR8 := Lib.hid hr8
      have hz8 : Hid (mb < w8.heap.size) := lt_of_heap hm8
      clear hFc8 hm8 hr8 HT7' hon hr hmc hf ho
      obtain ⟨ra, rc, hrs⟩ := HR8.out
      have x0 : w8.cell? ⟨rb, 0, none⟩ = some (.slice ra q7.l.length rc) := by rw [cell_of_row _ _ _ _ _ _ hrs.row]; rfl
      have HREC := recordsr_any ra rc q7.l w8 hrs.cap hrs.max (hrs.src.below hrs.low) hrs.nil
      unfold RecordsPost at HREC
      obtain ⟨F, hF⟩ : ∃ F, (recordsN q7.l).2 = F := ⟨_, rfl⟩
      obtain ⟨M5, hM5⟩ : ∃ M5, (recordsN q7.l).1 = M5 := ⟨_, rfl⟩
      rw [hF, hM5] at HREC HD
      rw [hM5] at HMB
      have HREC' := Lib.hid HREC
      clear HREC hF hM5 hrs
      go_upto_region 22 with (go_at_call 41; (with_reducible refine Calls.mono HREC'.out ?_); rintro e w9 ⟨rv, rfl, hrv, hb9⟩; obtain ⟨va, vc, rfl, hvr, hvm⟩ := hrv.recs; have hm9 := HM8.out.later hb9; obtain ⟨_, _, _, _, _, d95⟩ := hm9.cells; have f95 : w9.frozen? ⟨mb, 5, none⟩ = false := frozen_of_row _ _ _ _ _ hm9; have HM9 := Lib.hid hm9; have HB9 := Lib.hid hb9; have HRV := Lib.hid hrv; clear hm9 hb9 hrv hvr)
      have hF810 : Fr (fun k => k = mb) w8 (w9.setCell ⟨mb, 5, none⟩ (.slice va M5.length vc)) := (Fr.below HB9.out).set _ _ _ rfl
      have hm10 : MC (w9.setCell ⟨mb, 5, none⟩ (.slice va M5.length vc)) mb #[.int .u16 (n1 : Int), .string (ba c2), .slice na N4.length nc, .slice ta T6.length tc, .string (ba x7), .slice va M5.length vc] := by
        show (w9.setCell _ _).heap[mb]? = _
        rw [heap_setCell_same _ _ _ _ _ _ HM9.out]; rfl
      have hrv10 : OwnRecs (w9.setCell ⟨mb, 5, none⟩ (.slice va M5.length vc)) w8.heap.size (.slice va M5.length vc) M5 := HRV.out.keep (fun g hg _ => Below.heap_setCell _ _ _ _ (fun e => by have := hz8.out; subst e; omega))
      clear d95 f95 x0
      generalize w9.setCell ⟨mb, 5, none⟩ (.slice va M5.length vc) = w10 at hF810 hm10 hrv10
      have HRV10 := Lib.hid hrv10
      have HR10 : Hid (RSd w w10 rb q7) := HR8.out.fr hF810 (by have := HLT2.out; omega) (fun k hk => by have := HLT2.out; have := HRB.out; omega)
      have HO10 : Hid (w10.heap[ob]? = some (.cells #[.int .u16 0, .string ⟨#[]⟩, .slice none 0 0, .slice none 0 0, .string ⟨#[]⟩, .slice none 0 0] 27 (0, 0))) := HO8.out.fr hF810 (by have := HLT2.out; have := HLT0.out; omega)
      have HON10 : Hid (OwnN w10 w3.heap.size (.slice na N4.length nc) N4) := own_fr HON8.out hF810 (fun k hk => by have := HZ3.out; omega)
      have HOT10 : Hid (OwnT w10 w6.heap.size (.slice ta T6.length tc) T6) := own_fr HOT8.out hF810 (fun k hk => by have := HZ6.out; omega)
      have HM10 : Hid (w10.heap[mb]? = some (.cells #[.int .u16 (n1 : Int), .string (ba c2), .slice na N4.length nc, .slice ta T6.length tc, .string (ba x7), .slice va M5.length vc] 27 (0, 0))) := hm10
      have HZ8 : Hid (w.heap.size ≤ w8.heap.size) := by obtain ⟨_, _, h⟩ := HR8.out; exact h.low.size
      have HZ30 : Hid (w.heap.size ≤ w3.heap.size) := by show _ ≤ _; have := HZ3.out; have := HLT2.out; have := HRB.out; omega
      have HB10 : Hid (Below w.heap.size w w10) := by obtain ⟨_, _, h⟩ := HR10.out; exact h.low
      have x1 : w10.cell? ⟨rb, 1, none⟩ = some (.bool (!q7.bad)) := by obtain ⟨_, _, h⟩ := HR10.out; rw [cell_of_row _ _ _ _ _ _ h.row]; rfl
      obtain ⟨bd, hbd⟩ : ∃ bd, q7.bad = bd := ⟨_, rfl⟩
      rw [hbd] at x1 HD
      clear hF810 hm10 hrv10 HREC' HM9 HRV HB9 HM7 HF7 HR7 HR8 HR10 hbd
      cases bd with
      | true =>
        go_wp2_with (first
              | (with_reducible refine wpList_store_row rfl 27 (.tmp 2) (.tmp 98) rfl ob #[.int .u16 0, .string ⟨#[]⟩, .slice none 0 0, .slice none 0 0, .string ⟨#[]⟩, .slice none 0 0] rfl rfl 27 _ HO10.out (by kernel_rfl) rfl (by simp [Value.oneCell']) ?_))
        have hl := run_loadVar_row (P := Tryd.prog) (w10.setRow ob #[.int .u16 0, .string ⟨#[]⟩, .slice none 0 0, .slice none 0 0, .string ⟨#[]⟩, .slice none 0 0]) ob 27 27 #[.int .u16 0, .string ⟨#[]⟩, .slice none 0 0, .slice none 0 0, .string ⟨#[]⟩, .slice none 0 0] (0, 0) _ (setRow_heap w10 ob _ _ 27 _ HO10.out) Tryd.underlying27 rfl (by kernel_rfl)
        refine bodyPost_ret (results_cell_tmp Tryd.results17 _ _ _ rfl hl) rfl ?_
        rw [show D = (no, 80) from by rw [HD.out, if_pos (by simp)]]
        exact ⟨_, _, _, rfl, ownM_no _ _, below_setRow HB10.out (by have := HOB.out; omega) _⟩
      | false =>
        by_cases hF0 : F = 0
        · subst hF0
          obtain ⟨B, hB⟩ : ∃ B, mayN R ⟨n1, ba c2, N4, T6, ba x7, M5⟩ = B := ⟨_, rfl⟩
          have HMAY : Calls Tryd.prog 29 #[.agg #[.int .u16 (n1 : Int), .string (ba c2), .slice na N4.length nc, .slice ta T6.length tc, .string (ba x7), .slice va M5.length vc]] w10 (BoolPost B w10) := by
            have := mayr_any ⟨n1, ba c2, N4, T6, ba x7, M5⟩ na nc ta tc va vc w10 HMB.out.1 HMB.out.2 ⟨ints_own HON10.out, strs_own HOT10.out, by obtain ⟨_, _, e, h, _⟩ := HRV10.out.recs; cases e; exact h⟩
            rw [hB] at this
            exact this
          rw [hB] at HD
          have HMAY' := Lib.hid HMAY
          obtain ⟨d0, d1, d2, d3, d4, d5⟩ := MC.cells HM10.out
          clear HMAY hB
          cases B with
          | false =>
            go_wp2_with (first
              | (with_reducible refine wpList_store_row rfl 27 (.tmp 2) (.tmp 98) rfl ob #[.int .u16 0, .string ⟨#[]⟩, .slice none 0 0, .slice none 0 0, .string ⟨#[]⟩, .slice none 0 0] rfl rfl 27 _ HO11.out (by kernel_rfl) rfl (by simp [Value.oneCell']) ?_)
              | (go_at_call 29; (with_reducible refine Calls.mono HMAY'.out ?_); rintro e w11 ⟨rfl, hb11⟩; have HO11 : Hid (w11.heap[ob]? = some (.cells #[.int .u16 0, .string ⟨#[]⟩, .slice none 0 0, .slice none 0 0, .string ⟨#[]⟩, .slice none 0 0] 27 (0, 0))) := (hb11.block ob (lt_of_heap HO10.out)).trans HO10.out; have HB11x : Hid (Below w.heap.size w w11) := HB10.out.trans (hb11.mono HB10.out.size); clear hb11))
            have hl := run_loadVar_row (P := Tryd.prog) (w11.setRow ob #[.int .u16 0, .string ⟨#[]⟩, .slice none 0 0, .slice none 0 0, .string ⟨#[]⟩, .slice none 0 0]) ob 27 27 #[.int .u16 0, .string ⟨#[]⟩, .slice none 0 0, .slice none 0 0, .string ⟨#[]⟩, .slice none 0 0] (0, 0) _ (setRow_heap w11 ob _ _ 27 _ HO11.out) Tryd.underlying27 rfl (by kernel_rfl)
            refine bodyPost_ret (results_cell_tmp Tryd.results17 _ _ _ rfl hl) rfl ?_
            rw [show D = (no, 80) from by rw [HD.out, if_pos (by simp)]]
            exact ⟨_, _, _, rfl, ownM_no _ _, below_setRow HB11x.out (by have := HOB.out; omega) _⟩
          | true =>
            go_wp2_with (first
              | (go_at_call 29; (with_reducible refine Calls.mono HMAY'.out ?_); rintro e w11 ⟨rfl, hb11⟩; have HO11 : Hid (w11.heap[ob]? = some (.cells #[.int .u16 0, .string ⟨#[]⟩, .slice none 0 0, .slice none 0 0, .string ⟨#[]⟩, .slice none 0 0] 27 (0, 0))) := (hb11.block ob (lt_of_heap HO10.out)).trans HO10.out; have HM11 : Hid (w11.heap[mb]? = some (.cells #[.int .u16 (n1 : Int), .string (ba c2), .slice na N4.length nc, .slice ta T6.length tc, .string (ba x7), .slice va M5.length vc] 27 (0, 0))) := (hb11.block mb (lt_of_heap HM10.out)).trans HM10.out; have HB11 := Lib.hid hb11; clear hb11 HM10)
              | (with_reducible refine wpList_load_row rfl 27 (.tmp 5) rfl mb rfl 27 _ (0, 0) _ HM11.out Tryd.underlying27 rfl (by kernel_rfl) ?_)
              | (with_reducible refine wpList_store_row rfl 27 (.tmp 2) (.tmp 99) rfl ob #[.int .u16 (n1 : Int), .string (ba c2), .slice na N4.length nc, .slice ta T6.length tc, .string (ba x7), .slice va M5.length vc] rfl rfl 27 _ HO11.out (by kernel_rfl) rfl (by simp [Value.oneCell']) ?_))
            have hl := run_loadVar_row (P := Tryd.prog) (w11.setRow ob #[.int .u16 (n1 : Int), .string (ba c2), .slice na N4.length nc, .slice ta T6.length tc, .string (ba x7), .slice va M5.length vc]) ob 27 27 #[.int .u16 (n1 : Int), .string (ba c2), .slice na N4.length nc, .slice ta T6.length tc, .string (ba x7), .slice va M5.length vc] (0, 0) _ (setRow_heap w11 ob _ _ 27 _ HO11.out) Tryd.underlying27 rfl (by kernel_rfl)
            refine bodyPost_ret (results_cell_tmp Tryd.results17 _ _ _ rfl hl) rfl ?_
            rw [show D = (⟨n1, ba c2, N4, T6, ba x7, M5⟩, 0) from by rw [HD.out, if_neg (by rintro (h | h | h) <;> first | cases h | exact h rfl)]]
            have hB11 : Below w.heap.size w (w11.setRow ob #[.int .u16 (n1 : Int), .string (ba c2), .slice na N4.length nc, .slice ta T6.length tc, .string (ba x7), .slice va M5.length vc]) := below_setRow (HB10.out.trans (HB11.out.mono HB10.out.size)) (by have := HOB.out; omega) _
            have hset : ∀ g, ob < g → g < w10.heap.size → (w11.setRow ob #[.int .u16 (n1 : Int), .string (ba c2), .slice na N4.length nc, .slice ta T6.length tc, .string (ba x7), .slice va M5.length vc]).heap[g]? = w10.heap[g]? := fun g h1 h2 => (setRow_other w11 ob g _ (by omega)).trans (HB11.out.block g h2)
            have hob : ob < w3.heap.size := by have := HLT0.out; have := HLT2.out; have := HZ3.out; omega
            refine ⟨_, _, _, rfl, ⟨?_, ?_, ?_⟩, hB11⟩
            · exact own_base (ownsRow_blocks HON10.out (fun g hg => hset g (by have := (HON10.out.lt g hg).1; omega) (HON10.out.lt g hg).2)) HZ30.out
            · exact own_base (ownsRow_blocks HOT10.out (fun g hg => hset g (by have := (HOT10.out.lt g hg).1; have := HZ36.out; omega) (HOT10.out.lt g hg).2)) (Nat.le_trans HZ30.out HZ36.out)
            · exact OwnRecs.base (HRV10.out.keep (fun g hg h2 => hset g (by have := hz8.out; have := HLT0.out; have := HLT2.out; omega) h2)) HZ8.out
        · have hFi : ¬ (F : Int) = 0 := by omega
          go_wp2_with (first
              | (with_reducible refine wpList_store_row rfl 27 (.tmp 2) (.tmp 98) rfl ob #[.int .u16 0, .string ⟨#[]⟩, .slice none 0 0, .slice none 0 0, .string ⟨#[]⟩, .slice none 0 0] rfl rfl 27 _ HO10.out (by kernel_rfl) rfl (by simp [Value.oneCell']) ?_))
          have hl := run_loadVar_row (P := Tryd.prog) (w10.setRow ob #[.int .u16 0, .string ⟨#[]⟩, .slice none 0 0, .slice none 0 0, .string ⟨#[]⟩, .slice none 0 0]) ob 27 27 #[.int .u16 0, .string ⟨#[]⟩, .slice none 0 0, .slice none 0 0, .string ⟨#[]⟩, .slice none 0 0] (0, 0) _ (setRow_heap w10 ob _ _ 27 _ HO10.out) Tryd.underlying27 rfl (by kernel_rfl)
          refine bodyPost_ret (results_cell_tmp Tryd.results17 _ _ _ rfl hl) rfl ?_
          rw [show D = (no, 80) from by rw [HD.out, if_pos (by simp [hF0])]]
          exact ⟨_, _, _, rfl, ownM_no _ _, below_setRow HB10.out (by have := HOB.out; omega) _⟩
theorem decoder_any (a : Option Addr) (c : Nat) (l : List UInt8) (w : World) (hl : l.length ≤ 4000) (hc : l.length ≤ c) (hm : c ≤ maxLen) (hs : Src w a l) (hn : a = none → c = 0) : Calls Tryd.prog 17 #[.slice a l.length c] w (DecPost (Wire.decN R false l) w) := decoder_few a c l w hl hc hm hs hn
end Go.Proofs.YtakfhoodjcfpcaaDoor.T
