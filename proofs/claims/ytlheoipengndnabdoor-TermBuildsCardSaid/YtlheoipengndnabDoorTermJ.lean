import Derived.Test.YtlheoipengndnabDoorTermI
import Derived.BigRegion
import Derived.Deep.WholeRow
import Derived.Deep.CutRange
namespace Go.Proofs.YtlheoipengndnabDoor
open Go.RowKit
theorem heap_alloc_at (w : World) (o : Obj) : (w.alloc o).heap[w.heap.size]? = some o := (MapKept.heap_alloc w o).1
theorem below_new' (w : World) (o : Obj) : Below w.heap.size w (w.alloc o) := (Below.refl _ _).alloc (Nat.le_refl _) o
theorem info49 : (Tryd.prog.info? 38).map (·.size) = some 5 := by kernel_rfl
theorem results_cell_tmp {fn : Func} {t u : Tmp} {ty : TypeId} (h : fn.results = #[.cell t ty, .tmp u]) (tmps : Array Value) (P : Program) (w : World) {ad : Addr} {v : Value} (hp : tmps.getD t undef = .pointer (some ad)) (hl : (loadVar ty ad).run P w = .ok v w) : (results fn tmps).run P w = .ok (.tuple #[v, tmps.getD u undef]) w := by
  simp only [Array.getD_eq_getD_getElem?] at hp ⊢
  simp [results, h, hp, asAddr, hl]
theorem Fr.set' {S : Nat → Prop} {a b : World} (h : Fr S a b) (p : Addr) (v : Value) (hs : p.block < a.heap.size → S p.block) : Fr S a (b.setCell p v) :=
  ⟨h.os, h.tape, h.output, by simpa [World.setCell] using h.size, fun k hk hr => (Below.heap_setCell _ _ _ _ (fun e => hr (by rw [e]; exact hs (by rw [← e]; exact hk)))).trans (h.block k hk hr)⟩
theorem Fr.setR {S : Nat → Prop} {a b : World} (h : Fr S a b) (g : Nat) (cs : Array Value) (hs : g < a.heap.size → S g) : Fr S a (b.setRow g cs) :=
  ⟨h.os, h.tape, h.output, by simpa [World.setRow] using h.size, fun k hk hr => (setRow_other _ _ _ _ (fun e => hr (by rw [e]; exact hs (by rw [← e]; exact hk)))).trans (h.block k hk hr)⟩
theorem Fr.drew {S : Nat → Prop} {a b : World} (h : Fr S a b) : Fr S a b.drew := ⟨h.os, h.tape, h.output, h.size, h.block⟩
theorem Fr.trans' {S T : Nat → Prop} {a b c : World} (h : Fr S a b) (k : Fr T b c) (hst : ∀ i, i < a.heap.size → T i → S i) : Fr S a c :=
  ⟨k.os.trans h.os, k.tape.trans h.tape, k.output.trans h.output, Nat.le_trans h.size k.size, fun i hi hr => (k.block i (Nat.lt_of_lt_of_le hi h.size) (fun ht => hr (hst i hi ht))).trans (h.block i hi hr)⟩
theorem Fr.grownBy {rb : Nat} {a b : World} (h : Fr (fun k => k = rb) a b) : a.grownBy b (some rb) := ⟨h.os, h.tape, h.output, h.size, fun k hk hn => h.block k hk (fun e => hn (by rw [e]))⟩
theorem kids_base {B B' : Nat} {kv : Value} {ks : List (List UInt8)} {w : World} (h : KidsAt B kv ks w) (hb : B' ≤ B) : KidsAt B' kv ks w := by
  obtain ⟨vs, h1, h2, h3⟩ := h
  refine ⟨vs, h1, h2, h3.imp id fun ⟨g, cap, cur, e1, e2, e3⟩ => ⟨g, cap, cur, e1, Nat.le_trans hb e2, e3⟩⟩
theorem kids_fr {S : Nat → Prop} {B : Nat} {kv : Value} {ks : List (List UInt8)} {w w' : World} (h : KidsAt B kv ks w) (hf : Fr S w w') (hn : ∀ g, kv.ownBlock = some g → ¬ S g) : KidsAt B kv ks w' := by
  obtain ⟨vs, h1, h2, h3⟩ := h
  refine ⟨vs, h1, h2, ?_⟩
  rcases h3 with h0 | ⟨g, cap, cur, hv, hg, hh, hrest⟩
  · exact .inl h0
  · refine .inr ⟨g, cap, cur, hv, hg, ?_, hrest⟩
    have hlt : g < w.heap.size := (Array.getElem?_eq_some_iff.1 hh).1
    rw [hf.block g hlt (hn g (by rw [hv]; rfl))]; exact hh
theorem form_none {c : UInt8} (h : formOf c = none) (R : Nat) (r : List UInt8) : restP R c r = none := by
  unfold formOf at h
  by_cases h110 : c = 110
  · rw [if_pos h110] at h; cases h
  rw [if_neg h110] at h
  by_cases h116 : c = 116
  · rw [if_pos h116] at h; cases h
  rw [if_neg h116] at h
  by_cases h84 : c = 84
  · rw [if_pos h84] at h; cases h
  rw [if_neg h84] at h
  by_cases h80 : c = 80
  · rw [if_pos h80] at h; cases h
  rw [if_neg h80] at h
  by_cases h72 : c = 72
  · rw [if_pos h72] at h; cases h
  rw [if_neg h72] at h
  by_cases h83 : c = 83
  · rw [if_pos h83] at h; cases h
  rw [if_neg h83] at h
  by_cases h66 : c = 66
  · rw [if_pos h66] at h; cases h
  rw [if_neg h66] at h
  by_cases h88 : c = 88
  · rw [if_pos h88] at h; cases h
  rw [if_neg h88] at h
  by_cases h68 : c = 68
  · rw [if_pos h68] at h; cases h
  rw [if_neg h68] at h
  by_cases h86 : c = 86
  · rw [if_pos h86] at h; cases h
  rw [if_neg h86] at h
  by_cases h87 : c = 87
  · rw [if_pos h87] at h; cases h
  rw [if_neg h87] at h
  by_cases h75 : c = 75
  · rw [if_pos h75] at h; cases h
  rw [if_neg h75] at h
  by_cases h76 : c = 76
  · rw [if_pos h76] at h; cases h
  rw [if_neg h76] at h
  have ha : arity c = none := by
    unfold arity
    rw [if_neg (by rintro (h | h) <;> contradiction), if_neg (by rintro (h | h | h | h | h | h | h | h) <;> contradiction)]
  unfold restP
  rw [if_neg h110, if_neg h116, if_neg h84, ha]
theorem rest_any (rb xb a R f : Nat) (c : UInt8) (s : ByteArray) (w : World) (hf : formOf c = some f) (hs : s.size ≤ 16384) (ha : a ≤ s.size) (hR : Rd rb s a w) (hX : Xs xb c.toNat 0 ⟨#[]⟩ (.slice none 0 0) 1 w) (hL : LibOk w) (hne : xb ≠ rb) (hRR : R ≤ 64) (h6 : 6 ≤ rb) (h6' : 6 ≤ xb) (hT : TermAt rb R s) :
    Calls Tryd.prog f #[.pointer (some ⟨rb, 0, none⟩), .pointer (some ⟨xb, 0, none⟩), .int .i64 (R + 1)] w (RestPost rb xb s c.toNat (restP R c (s.data.toList.drop a)) w) := by
  unfold formOf at hf
  by_cases h110 : c = 110
  · rw [if_pos h110] at hf; cases hf; subst h110; exact name_rest rb xb a R s _ w hs ha hR hX hL hne
  rw [if_neg h110] at hf
  by_cases h116 : c = 116
  · rw [if_pos h116] at hf; cases hf; subst h116; exact text_rest rb xb a R s _ w hs ha hR hX hL hne
  rw [if_neg h116] at hf
  by_cases h84 : c = 84
  · rw [if_pos h84] at hf; cases hf; subst h84; exact tuple_rest rb xb a R s _ w hs ha hR hX hL hne hRR h6 h6' hT
  rw [if_neg h84] at hf
  by_cases h80 : c = 80
  · rw [if_pos h80] at hf; cases hf; subst h80; exact one_any rb xb a R s _ w hs hRR ha hR hX hL hne h6 h6' hT
  rw [if_neg h80] at hf
  by_cases h72 : c = 72
  · rw [if_pos h72] at hf; cases hf; subst h72; exact one_any rb xb a R s _ w hs hRR ha hR hX hL hne h6 h6' hT
  rw [if_neg h72] at hf
  by_cases h83 : c = 83
  · rw [if_pos h83] at hf; cases hf; subst h83; exact two_any rb xb a R s _ w hs hRR ha hR hX hL hne h6 h6' hT
  rw [if_neg h83] at hf
  by_cases h66 : c = 66
  · rw [if_pos h66] at hf; cases hf; subst h66; exact two_any rb xb a R s _ w hs hRR ha hR hX hL hne h6 h6' hT
  rw [if_neg h66] at hf
  by_cases h88 : c = 88
  · rw [if_pos h88] at hf; cases hf; subst h88; exact two_any rb xb a R s _ w hs hRR ha hR hX hL hne h6 h6' hT
  rw [if_neg h88] at hf
  by_cases h68 : c = 68
  · rw [if_pos h68] at hf; cases hf; subst h68; exact two_any rb xb a R s _ w hs hRR ha hR hX hL hne h6 h6' hT
  rw [if_neg h68] at hf
  by_cases h86 : c = 86
  · rw [if_pos h86] at hf; cases hf; subst h86; exact two_any rb xb a R s _ w hs hRR ha hR hX hL hne h6 h6' hT
  rw [if_neg h86] at hf
  by_cases h87 : c = 87
  · rw [if_pos h87] at hf; cases hf; subst h87; exact two_any rb xb a R s _ w hs hRR ha hR hX hL hne h6 h6' hT
  rw [if_neg h87] at hf
  by_cases h75 : c = 75
  · rw [if_pos h75] at hf; cases hf; subst h75; exact two_any rb xb a R s _ w hs hRR ha hR hX hL hne h6 h6' hT
  rw [if_neg h75] at hf
  by_cases h76 : c = 76
  · rw [if_pos h76] at hf; cases hf; subst h76; exact two_any rb xb a R s _ w hs hRR ha hR hX hL hne h6 h6' hT
  rw [if_neg h76] at hf
  cases hf
theorem parse_nil (R : Nat) : parse R [] = none := by cases R <;> rfl
theorem rest_kids {R : Nat} {c : UInt8} {r : List UInt8} {n : Nat} {t : List UInt8} {ks : List (List UInt8)} {d : Nat} {u : List UInt8} (h : restP R c r = some (n, t, ks, d, u)) : (∀ k, arity c = some k → ks.length = k) ∧ ∀ x ∈ ks, x ≠ [] := by
  have key : ∀ k l, kidsO R k l = some (n, t, ks, d, u) → ks.length = k ∧ ∀ x ∈ ks, x ≠ [] := by
    intro k l hk
    unfold kidsO at hk
    split at hk
    · cases hk
    · rename_i ks' d' u' hk'
      cases hk
      obtain ⟨h1, _, h3⟩ := kids_each (parse R) (parse_front R) k l ks d u hk'
      refine ⟨h1, fun x hx e => ?_⟩
      obtain ⟨y, hy, _⟩ := h3 x hx
      rw [e, parse_nil] at hy; cases hy
  unfold restP at h
  split at h
  · rename_i h1
    subst h1
    unfold nameO at h
    split at h
    · cases h
    · cases h; exact ⟨fun k hk => by simp [arity] at hk, fun x hx => by cases hx⟩
  split at h
  · rename_i h1
    subst h1
    unfold textO at h
    split at h
    · cases h
    · split at h
      · cases h; exact ⟨fun k hk => by simp [arity] at hk, fun x hx => by cases hx⟩
      · cases h
  split at h
  · rename_i h1
    subst h1
    unfold tupleO at h
    split at h
    · cases h
    · split at h
      · exact ⟨fun k hk => by simp [arity] at hk, (key _ _ h).2⟩
      · cases h
  split at h
  · cases h
  · rename_i k hk
    exact ⟨fun k' hk' => by rw [hk] at hk'; cases hk'; exact (key _ _ h).1, (key _ _ h).2⟩
end Go.Proofs.YtlheoipengndnabDoor
