/- The digest: the short calls. -/
import Derived.Test.YtkhbkckcgfddlaaDoorEq
import Derived.Lib.SlBytesConst
namespace Go.Proofs.YtkhbkckcgfddlaaDoor
open Go.RowKit
set_option maxRecDepth 100000 in
set_option maxHeartbeats 4000000 in
theorem works_any (w : World) (ht : TabAt w) : Calls Tryd.prog 11 #[] w fun e w' => e = .returned (.bool true) ∧ Below w.heap.size w w' := by
  have HT := Lib.hid ht
  clear ht
  have kc := fun (w : World) (C : Array Value) (n c : Nat) => Lib.run_convert_bytes_const (P := Tryd.prog) w 22 5 C n c Tryd.underlying22 Tryd.underlying5
  go_enter Tryd.func11, Tryd.ntmps11
  go_upto_region 4 with (go_at_call 12; (with_reducible refine Calls.mono (new_any w HT.out.pos) ?_); rintro e w1 ⟨sb, rfl, hs1, hb1, hsb⟩; have S1 := Lib.hid hs1; have B1 := Lib.hid hb1; have HSB := Lib.hid hsb; clear hs1 hb1 hsb)
  have T1 : Hid (TabAt w1) := HT.out.below B1.out
  have W1 : Hid (Calls Tryd.prog 14 #[.pointer (some ⟨sb, 0, none⟩), .slice (some ⟨w1.heap.size, 0, none⟩) 2 2] (w1.alloc (.cells #[.int .u8 97, .int .u8 98] 5 (2, 3))) fun e w' => e = .returned (.tuple #[]) ∧ StAt w' sb [97, 98] ∧ Fr (fun k => k = sb) w1 w') := write_new sb [] [97, 98] (2, 3) w1 S1.out T1.out (by simp) (by simp)
  have hpos := HT.out.pos
  go_upto_region 5 with (go_at_call 14; (with_reducible refine Calls.mono W1.out ?_); rintro e w2 ⟨rfl, hs2, hf2⟩; have S2 := Lib.hid hs2; have F2 := Lib.hid hf2; clear hs2 hf2)
  have T2 : Hid (TabAt w2) := T1.out.fr F2.out (by have := HSB.out; omega)
  have W2 : Hid (Calls Tryd.prog 14 #[.pointer (some ⟨sb, 0, none⟩), .slice (some ⟨w2.heap.size, 0, none⟩) 1 1] (w2.alloc (.cells #[.int .u8 99] 5 (1, 2))) fun e w' => e = .returned (.tuple #[]) ∧ StAt w' sb [97, 98, 99] ∧ Fr (fun k => k = sb) w2 w') := write_new sb [97, 98] [99] (1, 2) w2 S2.out T2.out (by simp) (by simp)
  go_upto_region 6 with (go_at_call 14; (with_reducible refine Calls.mono W2.out ?_); rintro e w3 ⟨rfl, hs3, hf3⟩; have S3 := Lib.hid hs3; have F3 := Lib.hid hf3; clear hs3 hf3)
  have T3 : Hid (TabAt w3) := T2.out.fr F3.out (by have := HSB.out; omega)
  have B3 : Hid (Below w.heap.size w w3) := B1.out.trans ((F2.out.trans F3.out).toBelow (fun k _ hk => by have := HSB.out; omega) B1.out.size)
  have W3 : Hid (Calls Tryd.prog 13 #[.pointer (some ⟨sb, 0, none⟩)] w3 fun e w' => e = .returned (.agg (Bytes (sha [97, 98, 99]))) ∧ Below w3.heap.size w3 w') := sum_any sb _ w3 S3.out T3.out (by simp)
  have heq := eql_sha [97, 98, 99]
  have HAB := Lib.hid abc_hex
  go_wp2_with (first
    | (go_at_call 13; (with_reducible refine Calls.mono W3.out ?_); rintro e w4 ⟨rfl, hb4⟩; have B4 := Lib.hid hb4; have W4 : Hid (Calls Tryd.prog 7 #[.slice (some ⟨w4.heap.size, 0, none⟩) 3 3] (w4.alloc (.cells #[.int .u8 97, .int .u8 98, .int .u8 99] 5 (3, 4))) fun e w' => e = .returned (.agg (Bytes (sha [97, 98, 99]))) ∧ Below w4.heap.size w4 w') := ((dsum_any (some ⟨w4.heap.size, 0, none⟩) [97, 98, 99] 3 (w4.alloc (.cells #[.int .u8 97, .int .u8 98, .int .u8 99] 5 (3, 4))) (new_bytes w4 [97, 98, 99] (3, 4)) (by simp) ((T3.out.below hb4).below (below_new' _ _)) (by simp)).mono fun _ _ ⟨h1, h2⟩ => ⟨h1, lt2 (below_new' _ _) h2⟩); clear hb4)
    | (go_at_call 7; (with_reducible refine Calls.mono W4.out ?_); rintro e w5 ⟨rfl, hb5⟩; have B5 := Lib.hid hb5; have W5 : Hid (Calls Tryd.prog 9 #[.slice (some ⟨w5.heap.size, 0, none⟩) 3 3] (w5.alloc (.cells #[.int .u8 97, .int .u8 98, .int .u8 99] 5 (3, 4))) fun e w' => e = .returned (.string ⟨(hexOf (sha [97, 98, 99])).toArray⟩) ∧ Below w5.heap.size w5 w') := ((hex_any (some ⟨w5.heap.size, 0, none⟩) [97, 98, 99] 3 (w5.alloc (.cells #[.int .u8 97, .int .u8 98, .int .u8 99] 5 (3, 4))) (new_bytes w5 [97, 98, 99] (3, 4)) (by simp) (((T3.out.below B4.out).below hb5).below (below_new' _ _)) (by simp)).mono fun _ _ ⟨h1, h2⟩ => ⟨h1, lt2 (below_new' _ _) h2⟩); (rw [HAB.out] at W5); clear hb5)
    | (go_at_call 9; (with_reducible refine Calls.mono W5.out ?_); rintro e w6 ⟨rfl, hb6⟩; have B6 := Lib.hid hb6; clear hb6))
  go_ret
  exact ⟨rfl, B3.out.trans ((lt2 (lt2 B4.out B5.out) B6.out).mono B3.out.size)⟩
end Go.Proofs.YtkhbkckcgfddlaaDoor
