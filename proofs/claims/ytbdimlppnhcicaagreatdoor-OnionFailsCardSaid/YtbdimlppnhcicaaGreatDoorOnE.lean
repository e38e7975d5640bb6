/- onion: the makers' values -/
import Derived.Test.YtbdimlppnhcicaaGreatDoorOnD
import Derived.Deep.MidRow
import Derived.Deep.RegionHeld
import Derived.Deep.CutRange
import Derived.Laws.CopyOwn
namespace Go.Proofs.YtbdimlppnhcicaaGreatDoor
set_option linter.unusedVariables false
open Go.RowKit
/-! onion: values and errors of the makers -/
def wholeP (t : ByteArray) : ByteArray × Int := if rt t then (t, 0) else (⟨#[]⟩, 3)
def buildP (head : ByteArray) (vs : List ByteArray) : ByteArray × Int := if vs.all rt then wholeP ⟨(buildL head vs).toArray⟩ else (⟨#[]⟩, 10)
def tupleP (vs : List ByteArray) : ByteArray × Int := if 32 < vs.length then (⟨#[]⟩, 3) else buildP (headS vs.length) vs
def agreeP (p t : ByteArray) : ByteArray × Int := match readP t.data.toList with
  | some x => if x.op = 80 then (if Op.bytesLess (⟨(nth x.kids 0).toArray⟩ : ByteArray).toList p.toList = true then buildP ⟨#[88]⟩ [⟨(nth x.kids 0).toArray⟩, p] else buildP ⟨#[88]⟩ [p, ⟨(nth x.kids 0).toArray⟩]) else (⟨#[]⟩, 10)
  | none => (⟨#[]⟩, 10)
def pubP (t : ByteArray) : ByteArray × Int := if rt t then wholeP (keyS t) else (⟨#[]⟩, 10)
def pv (p : ByteArray × Int) : Value := .tuple #[.string p.1, .int .i64 p.2]
theorem wholeV_P (t : ByteArray) : wholeV t = pv (wholeP t) := by
  unfold wholeV wholeP
  by_cases h : rt t = true
  · rw [if_pos h, if_pos h]; rfl
  · rw [if_neg h, if_neg h]; rfl
theorem buildV_P (head : ByteArray) (vs : List ByteArray) : buildV head vs = pv (buildP head vs) := by
  unfold buildV buildP
  by_cases h : vs.all rt = true
  · rw [if_pos h, if_pos h]; exact wholeV_P _
  · rw [if_neg h, if_neg h]; rfl
theorem tupleV_P (vs : List ByteArray) : tupleV vs = pv (tupleP vs) := by
  unfold tupleV tupleP
  by_cases h : 32 < vs.length
  · rw [if_pos h, if_pos h]; rfl
  · rw [if_neg h, if_neg h]; exact buildV_P _ _
theorem agreeV_P (p t : ByteArray) : agreeV p t = pv (agreeP p t) := by
  unfold agreeV agreeP
  cases readP t.data.toList with
  | none => rfl
  | some x =>
    dsimp only
    by_cases h : x.op = 80
    · rw [if_pos h, if_pos h]
      unfold agreeW
      split <;> exact buildV_P _ _
    · rw [if_neg h, if_neg h]; rfl
theorem pubV_P (t : ByteArray) : pubV t = pv (pubP t) := by
  unfold pubV pubP
  by_cases h : rt t = true
  · rw [if_pos h, if_pos h]; exact wholeV_P _
  · rw [if_neg h, if_neg h]; rfl
theorem wholeP_le (t : ByteArray) : (wholeP t).1.size ≤ 16384 := by
  unfold wholeP
  by_cases h : rt t = true
  · rw [if_pos h]; exact right_size h
  · rw [if_neg h]; exact Nat.zero_le _
theorem buildP_le (head : ByteArray) (vs : List ByteArray) : (buildP head vs).1.size ≤ 16384 := by
  unfold buildP
  by_cases h : vs.all rt = true
  · rw [if_pos h]; exact wholeP_le _
  · rw [if_neg h]; exact Nat.zero_le _
theorem tupleP_le (vs : List ByteArray) : (tupleP vs).1.size ≤ 16384 := by
  unfold tupleP
  by_cases h : 32 < vs.length
  · rw [if_pos h]; exact Nat.zero_le _
  · rw [if_neg h]; exact buildP_le _ _
theorem agreeP_le (p t : ByteArray) : (agreeP p t).1.size ≤ 16384 := by
  unfold agreeP
  cases readP t.data.toList with
  | none => exact Nat.zero_le _
  | some x =>
    dsimp only
    by_cases h : x.op = 80
    · rw [if_pos h]; split <;> exact buildP_le _ _
    · rw [if_neg h]; exact Nat.zero_le _
theorem pubP_le (t : ByteArray) : (pubP t).1.size ≤ 16384 := by
  unfold pubP
  by_cases h : rt t = true
  · rw [if_pos h]; exact wholeP_le _
  · rw [if_neg h]; exact Nat.zero_le _
theorem lt_max {n : Nat} (h : n ≤ 16384) : n ≤ maxLen := Nat.le_trans h (by decide)
/-! rows of hops -/
def HopsAt (o : Option Addr) (hs : List Hp) (w : World) : Prop := hs = [] ∨ ∃ b off, o = some ⟨b, off, none⟩ ∧ ∀ (k : Nat) (h : Hp), hs[k]? = some h → w.rangeAt b (off + k * 4) h.cells ∧ h.chan.size ≤ maxLen ∧ h.node.size ≤ maxLen
theorem HopsAt.below {o : Option Addr} {hs : List Hp} {w w' : World} (h : HopsAt o hs w) (hb : Below w.heap.size w w') : HopsAt o hs w' := by
  rcases h with h | ⟨b, off, h1, h2⟩
  · exact .inl h
  · exact .inr ⟨b, off, h1, fun k x hx => ⟨fun j v hv => cell_later' hb ((h2 k x hx).1 j v hv), (h2 k x hx).2⟩⟩
def hp0 : Hp := ⟨⟨#[]⟩, ⟨#[]⟩, 0, 0⟩
def lastH (hs : List Hp) (i : Nat) : Hp := if i + 1 < hs.length then hs.getD (i + 1) hp0 else hs.getD i hp0
def nameAt (hs : List Hp) (i : Nat) : ByteArray := if i + 1 < hs.length then (hs.getD (i + 1) hp0).chan else ⟨#[]⟩
def ofAt (hs : List Hp) (pay : ByteArray) (i : Nat) : ByteArray := if i + 1 < hs.length then ⟨#[84, 48, 58]⟩ else pay
def decS (n : Int) : ByteArray := ⟨(Lib.itoa n).toArray⟩
def payP (hs : List Hp) (pay : ByteArray) (i : Nat) : ByteArray × Int := tupleP [textS (nameAt hs i), textS (decS (lastH hs i).amt), textS (decS (lastH hs i).exp), ofAt hs pay i]
structure HpOk (h : Hp) : Prop where
  c : h.chan.size ≤ 100
  a0 : 0 ≤ h.amt
  a1 : h.amt ≤ 2100000000000000000
  e0 : 0 ≤ h.exp
  e1 : h.exp < 2147483648
theorem getD_of {hs : List Hp} {k : Nat} {h : Hp} (hk : hs[k]? = some h) : hs.getD k hp0 = h := by rw [List.getD_eq_getElem?_getD, hk]; rfl
theorem textS_le {s : ByteArray} (h : s.size ≤ 4096) : (textS s).size ≤ maxLen := by
  unfold textS
  have := itoa_size (s.size : Int) (by omega) (by omega)
  rw [ByteArray.size_append, ByteArray.size_append, ByteArray.size_append, size1, size1]
  unfold maxLen
  omega
theorem decS_le {n : Int} (h0 : -9223372036854775808 ≤ n) (h1 : n ≤ 9223372036854775807) : (decS n).size ≤ 21 := itoa_size n h0 h1
theorem strs_four {w : World} {a b c d : ByteArray} {t : TypeId} : StrsAt (some ⟨w.heap.size, 0, none⟩) [a, b, c, d] (w.alloc (.cells #[.string a, .string b, .string c, .string d] t)) := by
  refine .inr ⟨w.heap.size, 0, rfl, fun k s hs => ?_⟩
  rw [Nat.zero_add, cell_of_row _ _ _ _ _ _ (heap_alloc_at w _)]
  have hk : k < 4 := (List.getElem?_eq_some_iff.1 hs).1
  rcases (by omega : k = 0 ∨ k = 1 ∨ k = 2 ∨ k = 3) with rfl | rfl | rfl | rfl <;> (cases hs; rfl)
theorem digit_at (n : Nat) (w : World) (g : Nat) (h : w.heap[g]? = some (.cells #[.int .u8 (48 + (n : Int) % 10)] 5 (0, 0))) : (convert 98 9 (.slice (some ⟨g, 0, none⟩) 1 1)).run Tryz.prog w = .ok (.string (digS n)) w := by
  refine run_convert_bytes_back w 98 9 5 ⟨g, 0, none⟩ 1 [UInt8.ofNat (48 + n % 10)] Tryz.underlying98 Tryz.underlying5 Tryz.underlying9 (fun j hj => ?_)
  obtain rfl : j = 0 := by simpa using hj
  rw [show (⟨g, 0, none⟩ : Addr).add 0 = ⟨g, 0, none⟩ from rfl, cell_of_row _ _ _ _ _ _ h]
  have h10 : 48 + n % 10 < 256 := by omega
  simp only [List.getElem_cons_zero, UInt8.toNat_ofNat']
  rw [Nat.mod_eq_of_lt (by omega)]
  simp
set_option maxRecDepth 100000 in
set_option maxHeartbeats 8000000 in
theorem ddig_any (n : Nat) : ∀ (w : World), n ≤ 9223372036854775807 → Calls Tryz.prog 193 #[.int .i64 (n : Int)] w fun e w' => e = .returned (.string ⟨(Lib.decDigits n).toArray⟩) ∧ Below w.heap.size w w' := by
  induction n using Nat.strongRecOn with
  | ind n ih =>
    intro w hn
    have hd := digit_str n
    by_cases h : n < 10
    · obtain ⟨m, hm⟩ : ∃ m : Int, (n : Int) = m := ⟨_, rfl⟩
      have h0 : 0 ≤ m := by omega
      have h1 : m < 10 := by omega
      have HE : Hid (⟨(Lib.decDigits n).toArray⟩ = digS n) := by show _ = _; rw [Lib.decDigits_one h, digS, Nat.mod_eq_of_lt h]
      rw [show (48 : Int) + (n : Int) % 10 = 48 + m by omega] at hd
      rw [hm]
      clear ih h hm
      go_enter Tryz.func193, Tryz.ntmps193
      go_wp2
      go_ret
      exact ⟨by rw [HE.out]; rfl, (Below.refl _ _).alloc (Nat.le_refl _) _⟩
    · have hi : ¬ (n : Int) < 10 := by omega
      have hn2 : (n : Int) ≤ 9223372036854775807 := by omega
      have HR : Hid (∀ w : World, Calls Tryz.prog 193 #[.int .i64 ((n : Int) / 10)] w fun e w' => (e = .returned (.string ⟨(Lib.decDigits (n / 10)).toArray⟩)) ∧ Below w.heap.size w w') := fun w => ih (n / 10) (by omega) w (by omega)
      have HE : Hid (⟨(Lib.decDigits n).toArray⟩ = (⟨(Lib.decDigits (n / 10)).toArray⟩ : ByteArray) ++ digS n) := by
        show _ = _
        rw [Lib.decDigits, dif_neg h, mk_append, digS]
      have hz : (⟨(Lib.decDigits (n / 10)).toArray⟩ : ByteArray).size ≤ 21 := by
        have := itoa_size ((n / 10 : Nat) : Int) (by omega) (by omega)
        rw [Lib.itoa_nonneg] at this; exact this
      generalize (⟨(Lib.decDigits (n / 10)).toArray⟩ : ByteArray) = u at HR HE hz
      have c1 := cat_any u (digS n) (by rw [digS, size1]; omega)
      obtain ⟨m, hm⟩ : ∃ m : Int, (n : Int) = m := ⟨_, rfl⟩
      obtain ⟨md, hmd⟩ : ∃ md : Int, m % 10 = md := ⟨_, rfl⟩
      have h0 : 10 ≤ m := by omega
      have h1 : m ≤ 9223372036854775807 := by omega
      have hmd0 : 0 ≤ md := by omega
      have hmd1 : md < 10 := by omega
      rw [hm] at hd HR ⊢
      have hq1 : m.tdiv 10 = m / 10 := Int.tdiv_eq_ediv_of_nonneg (by omega)
      have hq2 : m.tmod 10 = md := by rw [Int.tmod_eq_emod_of_nonneg (by omega)]; exact hmd
      rw [hmd] at hd
      have hmd2 : (n : Int) % 10 = md := by omega
      have HCV : Hid (∀ (W : World) (g : Nat), W.heap[g]? = some (.cells #[.int .u8 (48 + md)] 5 (0, 0)) → (convert 98 9 (.slice (some ⟨g, 0, none⟩) 1 1)).run Tryz.prog W = .ok (.string (digS n)) W) := fun W g hg => digit_at n W g (by rw [hmd2]; exact hg)
      have hw1 : IntKind.i64.wrap (m / 10) = m / 10 := IntWalk.i64_in _ (by omega)
      have hw2 : IntKind.u8.wrap md = md := IntWalk.u8_in _ (by omega)
      have hw3 : IntKind.u8.wrap (48 + md) = 48 + md := IntWalk.u8_in _ (by omega)
      clear ih h hz hm hmd hi hn hn2
      go_enter Tryz.func193, Tryz.ntmps193
      go_upto_region 3 with fail
      go_cut [2] from 10 to 20 (fun v wx => v = .string (u ++ digS n) ∧ Hid (Below w.heap.size w wx))
      case first =>
        have Z0 := Lib.hid ((Below.refl w.heap.size w).drew)
        have hdd := hd w.drew
        have hd2 := HCV.out (w.alloc (.cells #[.int .u8 (48 + md)] 5)).drew w.heap.size (heap_alloc_at w _)
        go_region_held (fun _ => True) (trivial) ((go_at_call 193; (with_reducible refine Calls.mono (HR.out _) ?_); rintro e w1 ⟨rfl, hb⟩; (have z1 : w.heap.size ≤ w1.heap.size := Nat.le_trans (by first | exact Nat.le_refl _ | simp) hb.size); (try (have cv := HCV.out w1 w.heap.size ((hb.block w.heap.size (by simp)).trans (heap_alloc_at w _))))))
        all_goals go_wp2_with fail
        all_goals go_meet
        all_goals exact ⟨rfl, Lib.hid (by (first | (with_reducible assumption) | (repeat' (first | (with_reducible exact Below.refl _ _) | (with_reducible assumption) | (with_reducible refine Below.alloc ?_ ?_ _) | (with_reducible refine Below.drew ?_) | (with_reducible refine Below.setCell ?_ ?_ _) | (with_reducible refine below_drewN ?_ _) | (refine Below.trans ?_ (Below.mono (by assumption) ?_)) | go_size))))⟩
      case rest =>
        obtain ⟨rfl, hB⟩ := hcut
        go_wp2_with fail
        go_ret
        exact ⟨by rw [HE.out]; rfl, hB.out⟩
theorem nat_exp {h : Hp} (hk : HpOk h) : ∃ a e : Nat, h.amt = (a : Int) ∧ h.exp = (e : Int) ∧ a ≤ 9223372036854775807 ∧ e ≤ 9223372036854775807 :=
  ⟨h.amt.toNat, h.exp.toNat, by have := hk.a0; omega, by have := hk.e0; omega, by have := hk.a0; have := hk.a1; omega, by have := hk.e0; have := hk.e1; omega⟩
set_option maxRecDepth 100000 in
set_option maxHeartbeats 8000000 in
theorem dpay_any (o : Option Addr) (hs : List Hp) (c : Nat) (i : Nat) (pay : ByteArray) (w : World) (hi : i < hs.length) (hl : hs.length ≤ 20) (hH : HopsAt o hs w) (hok : ∀ h ∈ hs, HpOk h) (hp : pay.size ≤ maxLen) :
    Calls Tryz.prog 179 #[.slice o hs.length c, .int .i64 i, .string pay] w fun e w' => e = .returned (pv (payP hs pay i)) ∧ Below w.heap.size w w' := by
  obtain ⟨b, off, rfl, hrow⟩ := hH.resolve_left (by intro h; rw [h] at hi; simp at hi)
  obtain ⟨h, hh⟩ : ∃ h, hs[i]? = some h := ⟨_, List.getElem?_eq_getElem hi⟩
  obtain ⟨hr, hc1, _⟩ := hrow i h hh
  have hik : (i : Int) < (hs.length : Int) := by omega
  have hl2 : (hs.length : Int) ≤ 20 := by omega
  by_cases hlast : i + 1 < hs.length
  · obtain ⟨g, hg⟩ : ∃ g, hs[i + 1]? = some g := ⟨_, List.getElem?_eq_getElem hlast⟩
    obtain ⟨hr2, _, _⟩ := hrow (i + 1) g hg
    have hgk := hok g (List.mem_of_getElem? hg)
    obtain ⟨na, ne, hna, hne, ha, he⟩ := nat_exp hgk
    have HV : Hid (payP hs pay i = tupleP [textS g.chan, textS (decS g.amt), textS (decS g.exp), ⟨#[84, 48, 58]⟩]) := by
      show _ = _
      unfold payP nameAt lastH ofAt
      rw [if_pos hlast, if_pos hlast, if_pos hlast, getD_of hg]
    have a0 : w.cell? ⟨b, off + i * 4, none⟩ = some (.string h.chan) := hr 0 _ rfl
    have a1 : w.cell? ⟨b, off + i * 4 + 1, none⟩ = some (.string h.node) := hr 1 _ rfl
    have a2 : w.cell? ⟨b, off + i * 4 + 2, none⟩ = some (.int .i64 h.amt) := hr 2 _ rfl
    have a3 : w.cell? ⟨b, off + i * 4 + 3, none⟩ = some (.int .i64 h.exp) := hr 3 _ rfl
    have b0 : w.cell? ⟨b, off + (i + 1) * 4, none⟩ = some (.string g.chan) := hr2 0 _ rfl
    have b1 : w.cell? ⟨b, off + (i + 1) * 4 + 1, none⟩ = some (.string g.node) := hr2 1 _ rfl
    have b2 : w.cell? ⟨b, off + (i + 1) * 4 + 2, none⟩ = some (.int .i64 g.amt) := hr2 2 _ rfl
    have b3 : w.cell? ⟨b, off + (i + 1) * 4 + 3, none⟩ = some (.int .i64 g.exp) := hr2 3 _ rfl
    have hi1 : (i : Int) + 1 < (hs.length : Int) := by omega
    have hch := hgk.c
    have HD : Hid (∀ W, (Calls Tryz.prog 193 #[.int .i64 g.amt] W fun e w' => e = .returned (.string (decS g.amt)) ∧ Below W.heap.size W w') ∧ (Calls Tryz.prog 193 #[.int .i64 g.exp] W fun e w' => e = .returned (.string (decS g.exp)) ∧ Below W.heap.size W w')) := fun W => by
      rw [hna, hne]
      unfold decS
      rw [Lib.itoa_nonneg, Lib.itoa_nonneg]
      exact ⟨ddig_any na W ha, ddig_any ne W he⟩
    have hda : (decS g.amt).size ≤ 21 := decS_le (by have := hgk.a0; omega) (by have := hgk.a1; omega)
    have hde : (decS g.exp).size ≤ 21 := decS_le (by have := hgk.e0; omega) (by have := hgk.e1; omega)
    have HTX : Hid (∀ W, (Calls Tryz.prog 71 #[.string g.chan] W fun e w' => e = .returned (.tuple #[.string (textS g.chan), .int .i64 0]) ∧ Below W.heap.size W w') ∧ (Calls Tryz.prog 71 #[.string (decS g.amt)] W fun e w' => e = .returned (.tuple #[.string (textS (decS g.amt)), .int .i64 0]) ∧ Below W.heap.size W w') ∧ (Calls Tryz.prog 71 #[.string (decS g.exp)] W fun e w' => e = .returned (.tuple #[.string (textS (decS g.exp)), .int .i64 0]) ∧ Below W.heap.size W w')) := fun W => ⟨rbtext_short _ W (by omega), rbtext_short _ W (by omega), rbtext_short _ W (by omega)⟩
    have HTU : Hid (∀ W c o, StrsAt o [textS g.chan, textS (decS g.amt), textS (decS g.exp), ⟨#[84, 48, 58]⟩] W → Calls Tryz.prog 72 #[.slice o 4 c] W fun e w' => e = .returned (.tuple #[.string (payP hs pay i).1, .int .i64 (payP hs pay i).2]) ∧ Below W.heap.size W w') := fun W c o hS => by
      have := rtuple_any o [textS g.chan, textS (decS g.amt), textS (decS g.exp), ⟨#[84, 48, 58]⟩] 4 c W rfl (by
        intro v hv
        simp only [List.mem_cons, List.not_mem_nil, or_false] at hv
        rcases hv with rfl | rfl | rfl | rfl
        · exact textS_le (by omega)
        · exact textS_le (by omega)
        · exact textS_le (by omega)
        · decide) hS
      rw [tupleV_P, ← HV.out] at this
      exact this
    obtain ⟨V, hV⟩ : ∃ V, payP hs pay i = V := ⟨_, rfl⟩
    rw [hV] at HTU ⊢
    obtain ⟨t1, h1⟩ : ∃ t, textS g.chan = t := ⟨_, rfl⟩
    obtain ⟨t2, h2⟩ : ∃ t, textS (decS g.amt) = t := ⟨_, rfl⟩
    obtain ⟨t3, h3⟩ : ∃ t, textS (decS g.exp) = t := ⟨_, rfl⟩
    obtain ⟨d2, h4⟩ : ∃ t, decS g.amt = t := ⟨_, rfl⟩
    obtain ⟨d3, h5⟩ : ∃ t, decS g.exp = t := ⟨_, rfl⟩
    rw [h1, h2, h3, h4, h5] at HTX
    rw [h1, h2, h3] at HTU
    rw [h4, h5] at HD
    clear HV hV h1 h2 h3 h4 h5 hda hde hch hna hne hg hgk hr hr2 hrow hh hlast hi hc1 ha he
    go_enter Tryz.func179, Tryz.ntmps179
    go_upto_region 2 with fail
    have K8 := heap_alloc_at w (.cells #[.string h.chan, .string h.node, .int .i64 h.amt, .int .i64 h.exp] 49)
    have B0 := below_new' w (.cells #[.string h.chan, .string h.node, .int .i64 h.amt, .int .i64 h.exp] 49)
    replace b0 := cell_later B0 b0; replace b1 := cell_later B0 b1; replace b2 := cell_later B0 b2; replace b3 := cell_later B0 b3
    clear a0 a1 a2 a3
    have B0 := Lib.hid B0
    have K8 := Lib.hid K8
    generalize w.alloc (.cells #[.string h.chan, .string h.node, .int .i64 h.amt, .int .i64 h.exp] 49) = w0 at K8 B0 b0 b1 b2 b3 ⊢
    obtain ⟨k8, hk8⟩ : ∃ k, w.heap.size = k := ⟨_, rfl⟩
    have HK8 := Lib.hid hk8
    rw [hk8] at K8 ⊢
    clear hk8
    go_upto_region 4 with (refine wpList_store_row rfl 49 (.tmp 8) (.tmp 31) rfl k8 #[.string g.chan, .string g.node, .int .i64 g.amt, .int .i64 g.exp] rfl rfl 49 _ K8.out (by kernel_rfl) rfl (by simp [Value.oneCell']) ?_)
    have K9 : (w0.setRow k8 #[.string g.chan, .string g.node, .int .i64 g.amt, .int .i64 g.exp]).heap[k8]? = some (.cells #[.string g.chan, .string g.node, .int .i64 g.amt, .int .i64 g.exp] 49 (0, 0)) := setRow_heap w0 k8 _ _ 49 _ K8.out
    have B1 := Lib.hid (below_setRow B0.out (show w.heap.size ≤ k8 by have := HK8.out; omega) #[.string g.chan, .string g.node, .int .i64 g.amt, .int .i64 g.exp])
    clear b0 b1 b2 b3
    generalize w0.setRow k8 #[.string g.chan, .string g.node, .int .i64 g.amt, .int .i64 g.exp] = w1 at K9 B1 ⊢
    obtain ⟨c0, _, c2, c3⟩ := four K9
    have HK9 := Lib.hid K9
    clear K9
    go_wp2_with (first
      | (go_at_call 72; (with_reducible refine Calls.mono (HTU.out _ _ _ strs_four) ?_); rintro e w7 ⟨rfl, hb⟩; have B7 := Lib.hid (B6.out.trans (((below_new' w6 _).trans (hb.mono (by simp))).mono B6.out.size)); clear hb)
      | (go_at_call 71; (with_reducible refine Calls.mono (HTX.out _).2.2 ?_); rintro e w6 ⟨rfl, hb⟩; have B6 := Lib.hid (B5.out.trans (hb.mono B5.out.size)); clear hb)
      | (go_at_call 193; (with_reducible refine Calls.mono (HD.out _).2 ?_); rintro e w5 ⟨rfl, hb⟩; have B5 := Lib.hid (B4.out.trans (hb.mono B4.out.size)); clear hb)
      | (go_at_call 71; (with_reducible refine Calls.mono (HTX.out _).2.1 ?_); rintro e w4 ⟨rfl, hb⟩; have B4 := Lib.hid (B3.out.trans (hb.mono B3.out.size)); obtain ⟨c0, _, c2, c3⟩ := four ((hb.block _ (lt_of_heap HL9.out)).trans HL9.out); clear hb)
      | (go_at_call 193; (with_reducible refine Calls.mono (HD.out _).1 ?_); rintro e w3 ⟨rfl, hb⟩; have B3 := Lib.hid (B2.out.trans (hb.mono B2.out.size)); have HL9 := Lib.hid ((hb.block _ (lt_of_heap HJ9.out)).trans HJ9.out); clear hb)
      | (go_at_call 71; (with_reducible refine Calls.mono (HTX.out _).1 ?_); rintro e w2 ⟨rfl, hb⟩; have B2 := Lib.hid (B1.out.trans (hb.mono B1.out.size)); have HJ9 := Lib.hid ((hb.block _ (lt_of_heap HK9.out)).trans HK9.out); obtain ⟨c0, _, c2, c3⟩ := four HJ9.out; clear hb))
    go_ret2
    exact ⟨rfl, B7.out⟩
  · have hgk := hok h (List.mem_of_getElem? hh)
    obtain ⟨na, ne, hna, hne, ha, he⟩ := nat_exp hgk
    have HV : Hid (payP hs pay i = tupleP [textS ⟨#[]⟩, textS (decS h.amt), textS (decS h.exp), pay]) := by
      show _ = _
      unfold payP nameAt lastH ofAt
      rw [if_neg hlast, if_neg hlast, if_neg hlast, getD_of hh]
    have a0 : w.cell? ⟨b, off + i * 4, none⟩ = some (.string h.chan) := hr 0 _ rfl
    have a1 : w.cell? ⟨b, off + i * 4 + 1, none⟩ = some (.string h.node) := hr 1 _ rfl
    have a2 : w.cell? ⟨b, off + i * 4 + 2, none⟩ = some (.int .i64 h.amt) := hr 2 _ rfl
    have a3 : w.cell? ⟨b, off + i * 4 + 3, none⟩ = some (.int .i64 h.exp) := hr 3 _ rfl
    have hi1 : ¬ (i : Int) + 1 < (hs.length : Int) := by omega
    have HD : Hid (∀ W, (Calls Tryz.prog 193 #[.int .i64 h.amt] W fun e w' => e = .returned (.string (decS h.amt)) ∧ Below W.heap.size W w') ∧ (Calls Tryz.prog 193 #[.int .i64 h.exp] W fun e w' => e = .returned (.string (decS h.exp)) ∧ Below W.heap.size W w')) := fun W => by
      rw [hna, hne]
      unfold decS
      rw [Lib.itoa_nonneg, Lib.itoa_nonneg]
      exact ⟨ddig_any na W ha, ddig_any ne W he⟩
    have hda : (decS h.amt).size ≤ 21 := decS_le (by have := hgk.a0; omega) (by have := hgk.a1; omega)
    have hde : (decS h.exp).size ≤ 21 := decS_le (by have := hgk.e0; omega) (by have := hgk.e1; omega)
    have HTX : Hid (∀ W, (Calls Tryz.prog 71 #[.string ⟨#[]⟩] W fun e w' => e = .returned (.tuple #[.string (textS ⟨#[]⟩), .int .i64 0]) ∧ Below W.heap.size W w') ∧ (Calls Tryz.prog 71 #[.string (decS h.amt)] W fun e w' => e = .returned (.tuple #[.string (textS (decS h.amt)), .int .i64 0]) ∧ Below W.heap.size W w') ∧ (Calls Tryz.prog 71 #[.string (decS h.exp)] W fun e w' => e = .returned (.tuple #[.string (textS (decS h.exp)), .int .i64 0]) ∧ Below W.heap.size W w')) := fun W => ⟨rbtext_short _ W (by decide), rbtext_short _ W (by omega), rbtext_short _ W (by omega)⟩
    have HTU : Hid (∀ W c o, StrsAt o [textS ⟨#[]⟩, textS (decS h.amt), textS (decS h.exp), pay] W → Calls Tryz.prog 72 #[.slice o 4 c] W fun e w' => e = .returned (.tuple #[.string (payP hs pay i).1, .int .i64 (payP hs pay i).2]) ∧ Below W.heap.size W w') := fun W c o hS => by
      have := rtuple_any o [textS ⟨#[]⟩, textS (decS h.amt), textS (decS h.exp), pay] 4 c W rfl (by
        intro v hv
        simp only [List.mem_cons, List.not_mem_nil, or_false] at hv
        rcases hv with rfl | rfl | rfl | rfl
        · exact textS_le (by decide)
        · exact textS_le (by omega)
        · exact textS_le (by omega)
        · exact hp) hS
      rw [tupleV_P, ← HV.out] at this
      exact this
    obtain ⟨V, hV⟩ : ∃ V, payP hs pay i = V := ⟨_, rfl⟩
    rw [hV] at HTU ⊢
    obtain ⟨t1, h1⟩ : ∃ t, textS (⟨#[]⟩ : ByteArray) = t := ⟨_, rfl⟩
    obtain ⟨t2, h2⟩ : ∃ t, textS (decS h.amt) = t := ⟨_, rfl⟩
    obtain ⟨t3, h3⟩ : ∃ t, textS (decS h.exp) = t := ⟨_, rfl⟩
    obtain ⟨d2, h4⟩ : ∃ t, decS h.amt = t := ⟨_, rfl⟩
    obtain ⟨d3, h5⟩ : ∃ t, decS h.exp = t := ⟨_, rfl⟩
    rw [h1, h2, h3, h4, h5] at HTX
    rw [h1, h2, h3] at HTU
    rw [h4, h5] at HD
    clear HV hV h1 h2 h3 h4 h5 hda hde hna hne hgk hr hrow hh hlast hi hc1 ha he
    go_enter Tryz.func179, Tryz.ntmps179
    go_upto_region 2 with fail
    have K8 := heap_alloc_at w (.cells #[.string h.chan, .string h.node, .int .i64 h.amt, .int .i64 h.exp] 49)
    have B1 := Lib.hid (below_new' w (.cells #[.string h.chan, .string h.node, .int .i64 h.amt, .int .i64 h.exp] 49))
    clear a0 a1 a2 a3
    generalize w.alloc (.cells #[.string h.chan, .string h.node, .int .i64 h.amt, .int .i64 h.exp] 49) = w1 at K8 B1 ⊢
    obtain ⟨k8, hk8⟩ : ∃ k, w.heap.size = k := ⟨_, rfl⟩
    have HK8 := Lib.hid hk8
    rw [hk8] at K8 ⊢
    clear hk8
    obtain ⟨c0, _, c2, c3⟩ := four K8
    have HK9 := Lib.hid K8
    clear K8
    go_wp2_with (first
      | (go_at_call 72; (with_reducible refine Calls.mono (HTU.out _ _ _ strs_four) ?_); rintro e w7 ⟨rfl, hb⟩; have B7 := Lib.hid (B6.out.trans (((below_new' w6 _).trans (hb.mono (by simp))).mono B6.out.size)); clear hb)
      | (go_at_call 71; (with_reducible refine Calls.mono (HTX.out _).2.2 ?_); rintro e w6 ⟨rfl, hb⟩; have B6 := Lib.hid (B5.out.trans (hb.mono B5.out.size)); clear hb)
      | (go_at_call 193; (with_reducible refine Calls.mono (HD.out _).2 ?_); rintro e w5 ⟨rfl, hb⟩; have B5 := Lib.hid (B4.out.trans (hb.mono B4.out.size)); clear hb)
      | (go_at_call 71; (with_reducible refine Calls.mono (HTX.out _).2.1 ?_); rintro e w4 ⟨rfl, hb⟩; have B4 := Lib.hid (B3.out.trans (hb.mono B3.out.size)); obtain ⟨c0, _, c2, c3⟩ := four ((hb.block _ (lt_of_heap HL9.out)).trans HL9.out); clear hb)
      | (go_at_call 193; (with_reducible refine Calls.mono (HD.out _).1 ?_); rintro e w3 ⟨rfl, hb⟩; have B3 := Lib.hid (B2.out.trans (hb.mono B2.out.size)); have HL9 := Lib.hid ((hb.block _ (lt_of_heap HJ9.out)).trans HJ9.out); clear hb)
      | (go_at_call 71; (with_reducible refine Calls.mono (HTX.out _).1 ?_); rintro e w2 ⟨rfl, hb⟩; have B2 := Lib.hid (B1.out.trans (hb.mono B1.out.size)); have HJ9 := Lib.hid ((hb.block _ (lt_of_heap HK9.out)).trans HK9.out); obtain ⟨c0, _, c2, c3⟩ := four HJ9.out; clear hb))
    go_ret2
    exact ⟨rfl, B7.out⟩
end Go.Proofs.YtbdimlppnhcicaaGreatDoor
