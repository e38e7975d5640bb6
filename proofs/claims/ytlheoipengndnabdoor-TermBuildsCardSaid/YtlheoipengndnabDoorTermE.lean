import Derived.Test.YtlheoipengndnabDoorTermD
import Derived.Deep.Onto
namespace Go.Proofs.YtlheoipengndnabDoor
set_option linter.unusedVariables false
open Go.RowKit

theorem RestPost.after {rb xb : Nat} {s : ByteArray} {op : Int} {o : Option Rest} {w w1 w2 : World} {e : Ending} (h : RestPost rb xb s op o w1 e w2) (hg : Fr (Two rb xb) w w1) : RestPost rb xb s op o w e w2 := by
  refine ⟨hg.trans h.1, h.2.1, fun n t ks d rest ho => ?_⟩
  obtain ⟨h1, a, u, kv, h2, h3, h4, h5, h6, vs, h7, h8⟩ := h.2.2 n t ks d rest ho
  exact ⟨h1, a, u, kv, h2, h3, h4, h5, h6, vs, h7, h8.mono hg.size⟩
set_option maxRecDepth 100000 in
set_option maxHeartbeats 1000000 in
theorem tuple_no (rb xb at_ R : Nat) (s : ByteArray) (op : Int) (w : World) (hs : s.size ≤ 16384) (hRR : R ≤ 64) (ha : at_ ≤ s.size) (hR : Rd rb s at_ w) (hX : Xs xb op 0 ⟨#[]⟩ (.slice none 0 0) 1 w) (hL : LibOk w) (hne : xb ≠ rb) (h6 : 6 ≤ rb) (h6' : 6 ≤ xb)
    (hT : TermAt rb R s)
    (hn : num 58 (s.data.toList.drop at_) = none) :
    Calls Tryd.prog 57 #[.pointer (some ⟨rb, 0, none⟩), .pointer (some ⟨xb, 0, none⟩), .int .i64 (R + 1)] w (RestPost rb xb s op none w) := by
  have HC := Lib.hid (number_any rb at_ s 58 58 rfl (by decide) w hs ha hR hL)
  have HN := Lib.hid hn; have HX := Lib.hid hX; clear hn hX hR hT
  go_enter Tryd.func57, Tryd.ntmps57
  go_wp2_with (go_at_call 65; (with_reducible refine Calls.mono HC.out ?_); rintro e w1 ⟨hg, ⟨z, hz⟩, hno, _⟩; obtain ⟨m, rfl⟩ := hno HN.out; clear hno; have hx1 := HX.out.fr (Fr.grown (S := fun k => k = rb) hg rfl) (fun h => hne h); have HX1 := Lib.hid hx1; have HG := Lib.hid hg; have HZ := Lib.hid hz; clear hx1 hg hz)
  all_goals (try go_ret)
  exact ⟨(Fr.grown HG.out (.inl rfl)), fun _ => ⟨rfl, z, 0, 1, ⟨#[]⟩, _, HZ.out, HX1.out⟩, fun n t ks d rest h => (by cases h)⟩
set_option maxRecDepth 100000 in
set_option maxHeartbeats 1000000 in
theorem tuple_many (rb xb at_ R : Nat) (s : ByteArray) (op : Int) (w : World) (hs : s.size ≤ 16384) (hRR : R ≤ 64) (ha : at_ ≤ s.size) (hR : Rd rb s at_ w) (hX : Xs xb op 0 ⟨#[]⟩ (.slice none 0 0) 1 w) (hL : LibOk w) (hne : xb ≠ rb) (h6 : 6 ≤ rb) (h6' : 6 ≤ xb)
    (hT : TermAt rb R s)
    (m : Nat) (rest : List UInt8) (hn : num 58 (s.data.toList.drop at_) = some (m, rest)) (hm : (32 : Int) < m) :
    Calls Tryd.prog 57 #[.pointer (some ⟨rb, 0, none⟩), .pointer (some ⟨xb, 0, none⟩), .int .i64 (R + 1)] w (RestPost rb xb s op none w) := by
  have HC := Lib.hid (number_any rb at_ s 58 58 rfl (by decide) w hs ha hR hL)
  have HN := Lib.hid hn; have HX := Lib.hid hX; clear hn hX hR hT
  have q1 := decN ((m : Int) ≤ 32) (by omega)
  go_enter Tryd.func57, Tryd.ntmps57
  go_wp2_with (go_at_call 65; (with_reducible refine Calls.mono HC.out ?_); rintro e w1 ⟨hg, _, _, hyes⟩; obtain ⟨rfl, a, ha', hz, hd⟩ := hyes _ _ HN.out; clear hyes; have hx1 := HX.out.fr (Fr.grown (S := fun k => k = rb) hg rfl) (fun h => hne h); have HX1 := Lib.hid hx1; have HG := Lib.hid hg; have HZ := Lib.hid hz; clear hx1 hg hz; clear hd)
  all_goals (try go_ret)
  exact ⟨(Fr.grown HG.out (.inl rfl)), fun _ => ⟨rfl, a, 0, 1, ⟨#[]⟩, _, HZ.out, HX1.out⟩, fun n t ks d rest h => (by cases h)⟩
set_option maxRecDepth 100000 in
set_option maxHeartbeats 1000000 in
theorem tuple_yes (rb xb at_ R : Nat) (s : ByteArray) (op : Int) (w : World) (hs : s.size ≤ 16384) (hRR : R ≤ 64) (ha : at_ ≤ s.size) (hR : Rd rb s at_ w) (hX : Xs xb op 0 ⟨#[]⟩ (.slice none 0 0) 1 w) (hL : LibOk w) (hne : xb ≠ rb) (h6 : 6 ≤ rb) (h6' : 6 ≤ xb)
    (hT : TermAt rb R s)
    (m : Nat) (rest : List UInt8) (hn : num 58 (s.data.toList.drop at_) = some (m, rest)) (hm : (m : Int) ≤ 32) :
    Calls Tryd.prog 57 #[.pointer (some ⟨rb, 0, none⟩), .pointer (some ⟨xb, 0, none⟩), .int .i64 (R + 1)] w (RestPost rb xb s op (kidsO R m rest) w) := by
  have HC := Lib.hid (number_any rb at_ s 58 58 rfl (by decide) w hs ha hR hL)
  have HN := Lib.hid hn; have HX := Lib.hid hX; have HT := Lib.hid hT; clear hn hX hR hT
  have q1 := decB ((m : Int) ≤ 32) hm
  obtain ⟨o, ho⟩ : ∃ o, kidsO R m rest = o := ⟨_, rfl⟩
  have HO := Lib.hid ho
  rw [ho]; clear ho
  cases o with
  | none =>
    go_enter Tryd.func57, Tryd.ntmps57
    go_wp2_with (first | (go_at_call 65; (with_reducible refine Calls.mono HC.out ?_); rintro e w1 ⟨hg, _, _, hyes⟩; obtain ⟨rfl, a, ha', hz, hd⟩ := hyes _ _ HN.out; clear hyes; have hx1 := HX.out.fr (Fr.grown (S := fun k => k = rb) hg rfl) (fun h => hne h); have HX1 := Lib.hid hx1; have HG := Lib.hid hg; have HZ := Lib.hid hz; clear hx1 hg hz; have HD := Lib.hid hd; clear hd) | (go_at_call 66; (with_reducible refine Calls.mono (kids_rest rb xb a R s op w1 hs hRR ha' HZ.out HX1.out (hL.fr (Fr.grown (S := fun k => k = rb) HG.out rfl) (by omega) (by omega)) hne h6 h6' HT.out m (by omega)) ?_); rintro e w2 hp; rw [HD.out, HO.out] at hp; obtain ⟨rfl, _⟩ := hp.2.1 rfl; have HP := Lib.hid hp; clear hp))
    all_goals (try go_ret)
    exact HP.out.after (Fr.grown HG.out (.inl rfl))
  | some y =>
    obtain ⟨n, t, ks, d, u⟩ := y
    go_enter Tryd.func57, Tryd.ntmps57
    go_wp2_with (first | (go_at_call 65; (with_reducible refine Calls.mono HC.out ?_); rintro e w1 ⟨hg, _, _, hyes⟩; obtain ⟨rfl, a, ha', hz, hd⟩ := hyes _ _ HN.out; clear hyes; have hx1 := HX.out.fr (Fr.grown (S := fun k => k = rb) hg rfl) (fun h => hne h); have HX1 := Lib.hid hx1; have HG := Lib.hid hg; have HZ := Lib.hid hz; clear hx1 hg hz; have HD := Lib.hid hd; clear hd) | (go_at_call 66; (with_reducible refine Calls.mono (kids_rest rb xb a R s op w1 hs hRR ha' HZ.out HX1.out (hL.fr (Fr.grown (S := fun k => k = rb) HG.out rfl) (by omega) (by omega)) hne h6 h6' HT.out m (by omega)) ?_); rintro e w2 hp; rw [HD.out, HO.out] at hp; obtain ⟨rfl, _⟩ := hp.2.2 _ _ _ _ _ rfl; have HP := Lib.hid hp; clear hp))
    all_goals (try go_ret)
    exact HP.out.after (Fr.grown HG.out (.inl rfl))
end Go.Proofs.YtlheoipengndnabDoor
