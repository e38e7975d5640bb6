/- tlv: Put; the document's Put. -/
import Derived.Calls
import Derived.WalkKit
import Derived.WalkSpells
import Derived.WalkLawsBesides
import Derived.Handy
import Derived.Lib.Hide
import Derived.Deep.AppendLies
import Derived.Deep.LoopGhost
import Derived.Outline
import Derived.Test.YtakfhoodjcfpcaaDoorRows
import Derived.Test.YtakfhoodjcfpcaaDoorPl
import Derived.Test.YtakfhoodjcfpcaaDoorTlA
namespace Go.Proofs.YtakfhoodjcfpcaaDoor.T
open Go.RowKit

theorem byt_nil (w : World) (base : Nat) : Byt w base (.slice none 0 0) [] := World.ownsRow_nil _ _ _ _
theorem byt_new (w : World) (c : UInt8) : Byt (w.alloc (.cells #[bv c] 5)) w.heap.size (.slice (some ⟨w.heap.size, 0, none⟩) 1 1) [c] :=
  ⟨rfl, .inr ⟨w.heap.size, 1, #[bv c], rfl, Nat.le_refl _, heap_alloc_at _ _, Nat.le_refl _, by unfold maxLen; omega, rfl, rfl⟩⟩
/-- bytes of the call's own are told -/
def NewPost (w : World) (l : List UInt8) (e : Ending) (w' : World) : Prop := ∃ v, e = .returned v ∧ Byt w' w.heap.size v l ∧ Below w.heap.size w w'
theorem new_of_put {w W w' : World} {v : Value} {l : List UInt8} {e : Ending} (hb : Below w.heap.size w W) (hv : ∀ g, v.ownBlock = some g → w.heap.size ≤ g) (h : PutPost W w.heap.size v l e w') : NewPost w l e w' := by
  obtain ⟨v', rfl, h1, h2, _⟩ := h
  exact ⟨v', rfl, h1, hb.grown h2 hb.size (fun k hk => hv k hk)⟩
set_option maxRecDepth 100000 in
set_option maxHeartbeats 2000000 in
theorem Put_any (n : Int) (h0 : 0 ≤ n) (w : World) : Calls Tryd.prog 46 #[.int .u64 n] w (NewPost w (Tlv.putN n.toNat)) := by
  have e1 : n < 253 → Tlv.putN n.toNat = [] ++ Tlv.be 1 n.toNat := fun h => by unfold Tlv.putN; rw [if_pos (by omega)]; rfl
  have e2 : ¬ n < 253 → n < 65536 → Tlv.putN n.toNat = [253] ++ Tlv.be 2 n.toNat := fun h h' => by unfold Tlv.putN; rw [if_neg (by omega), if_pos (by omega)]; rfl
  have e3 : ¬ n < 65536 → n < 4294967296 → Tlv.putN n.toNat = [254] ++ Tlv.be 4 n.toNat := fun h h' => by unfold Tlv.putN; rw [if_neg (by omega), if_neg (by omega), if_pos (by omega)]; rfl
  have e4 : ¬ n < 4294967296 → Tlv.putN n.toNat = [255] ++ Tlv.be 8 n.toNat := fun h => by unfold Tlv.putN; rw [if_neg (by omega), if_neg (by omega), if_neg (by omega)]; rfl
  by_cases h1 : n < 253
  · rw [e1 h1]
    have H := Lib.hid (put_any w.heap.size (.slice none 0 0) [] n 1 (by omega) (by simp) h0 w (Nat.le_refl _) (byt_nil _ _))
    clear e1 e2 e3 e4
    go_enter Tryd.func46, Tryd.ntmps46
    go_wp2_with (go_at_call 60; (with_reducible refine Calls.mono H.out ?_); rintro e w1 hp; obtain ⟨v1, rfl, hb1, hbl⟩ := new_of_put (w := w) (Below.refl _ _) (fun g hg => by cases hg) hp; have HB := Lib.hid hb1; have HL := Lib.hid hbl; clear hp hb1 hbl)
    go_ret
    exact ⟨_, rfl, HB.out, HL.out⟩
  · by_cases h2 : n < 65536
    · rw [e2 h1 h2]
      have H := Lib.hid (put_any w.heap.size (.slice (some ⟨w.heap.size, 0, none⟩) 1 1) [253] n 2 (by omega) (by simp) h0 _ (by simp) (byt_new w 253))
      clear e1 e2 e3 e4
      go_enter Tryd.func46, Tryd.ntmps46
      go_wp2_with (go_at_call 60; refine Calls.mono H.out ?_; rintro e w1 hp; obtain ⟨v1, rfl, hb1, hbl⟩ := new_of_put (w := w) ((Below.refl _ _).alloc (Nat.le_refl _) _) (fun g hg => by cases hg; exact Nat.le_refl _) hp; have HB := Lib.hid hb1; have HL := Lib.hid hbl; clear hp hb1 hbl)
      go_ret
      exact ⟨_, rfl, HB.out, HL.out⟩
    · by_cases h3 : n < 4294967296
      · rw [e3 h2 h3]
        have H := Lib.hid (put_any w.heap.size (.slice (some ⟨w.heap.size, 0, none⟩) 1 1) [254] n 4 (by omega) (by simp) h0 _ (by simp) (byt_new w 254))
        clear e1 e2 e3 e4
        go_enter Tryd.func46, Tryd.ntmps46
        go_wp2_with (go_at_call 60; refine Calls.mono H.out ?_; rintro e w1 hp; obtain ⟨v1, rfl, hb1, hbl⟩ := new_of_put (w := w) ((Below.refl _ _).alloc (Nat.le_refl _) _) (fun g hg => by cases hg; exact Nat.le_refl _) hp; have HB := Lib.hid hb1; have HL := Lib.hid hbl; clear hp hb1 hbl)
        go_ret
        exact ⟨_, rfl, HB.out, HL.out⟩
      · rw [e4 h3]
        have H := Lib.hid (put_any w.heap.size (.slice (some ⟨w.heap.size, 0, none⟩) 1 1) [255] n 8 (by omega) (by simp) h0 _ (by simp) (byt_new w 255))
        clear e1 e2 e3 e4
        go_enter Tryd.func46, Tryd.ntmps46
        go_wp2_with (go_at_call 60; refine Calls.mono H.out ?_; rintro e w1 hp; obtain ⟨v1, rfl, hb1, hbl⟩ := new_of_put (w := w) ((Below.refl _ _).alloc (Nat.le_refl _) _) (fun g hg => by cases hg; exact Nat.le_refl _) hp; have HB := Lib.hid hb1; have HL := Lib.hid hbl; clear hp hb1 hbl)
        go_ret
        exact ⟨_, rfl, HB.out, HL.out⟩
end Go.Proofs.YtakfhoodjcfpcaaDoor.T
