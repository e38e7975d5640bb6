/- The digest in digits: the document's. -/
import Derived.Test.YtkhbkckcgfddlaaDoorH
namespace Go.Proofs.YtkhbkckcgfddlaaDoor
open Go.RowKit
attribute [local go_sem] match_U match_B run_store_U run_store_B
theorem quo16_B (x : Nat) (w : World) (h : x < 256) : (binOp .quo 5 (B x) (.int .u8 16)).run Tryd.prog w = .ok (.int .u8 ((x / 16 : Nat) : Int)) w := by
  have h1 : (binOp .quo 5 (.int .u8 (x : Int)) (.int .u8 16)).run Tryd.prog w = .ok (.int .u8 (IntKind.u8.wrap ((x : Int).tdiv 16))) w := by kernel_rfl
  refine h1.trans (congrArg (fun z => Result.ok (Value.int .u8 z) w) ?_)
  rw [Int.tdiv_eq_ediv_of_nonneg (by omega), IntKind.wrap_u8]
  omega
theorem rem16_B (x : Nat) (w : World) (h : x < 256) : (binOp .rem 5 (B x) (.int .u8 16)).run Tryd.prog w = .ok (.int .u8 ((x % 16 : Nat) : Int)) w := by
  have h1 : (binOp .rem 5 (.int .u8 (x : Int)) (.int .u8 16)).run Tryd.prog w = .ok (.int .u8 ((x : Int).tmod 16)) w := by kernel_rfl
  refine h1.trans (congrArg (fun z => Result.ok (Value.int .u8 z) w) ?_)
  rw [Int.tmod_eq_emod_of_nonneg (by omega)]
  omega
def digs : ByteArray := ⟨#[48, 49, 50, 51, 52, 53, 54, 55, 56, 57, 97, 98, 99, 100, 101, 102]⟩
theorem slice_digs (k : Nat) (h : k < 16) (w : World) : (Instr.slice 9 (.string ⟨#[48, 49, 50, 51, 52, 53, 54, 55, 56, 57, 97, 98, 99, 100, 101, 102]⟩) (some (.int .i64 (k : Int))) (some (.int .i64 ((k : Int) + 1))) none).run Tryd.prog w = .ok (.string ⟨#[digit k]⟩) w := by
  have hsz : (⟨#[48, 49, 50, 51, 52, 53, 54, 55, 56, 57, 97, 98, 99, 100, 101, 102]⟩ : ByteArray).size = 16 := rfl
  rw [run_slice_string w 9 _ .i64 .i64 _ _ Tryd.underlying9 (by omega) (by omega) (by rw [hsz]; omega)]
  have : ∀ k : Fin 16, (⟨#[48, 49, 50, 51, 52, 53, 54, 55, 56, 57, 97, 98, 99, 100, 101, 102]⟩ : ByteArray).extract k.val (k.val + 1) = ⟨#[digit k.val]⟩ := by decide +kernel
  have h2 := this ⟨k, h⟩
  have e : ((k : Int) + 1).toNat = k + 1 := by omega
  rw [e, Int.toNat_natCast]
  exact congrArg (fun z => Result.ok (Value.string z) w) h2
theorem hexOf_next {l : List Nat} {i x : Nat} (h : l[i]? = some x) : hexOf (l.take (i + 1)) = hexOf (l.take i) ++ [digit (x / 16)] ++ [digit (x % 16)] := by
  rw [take_nextB h, hexOf_append, List.append_assoc]; rfl
set_option maxRecDepth 100000 in
set_option maxHeartbeats 4000000 in
theorem rhex_any (pa : Option Addr) (p : List Nat) (cap : Nat) (w : World) (hp : BytesAt w pa p) (hl : p.length ≤ 100000) :
    Calls Tryd.prog 10 #[.slice pa p.length cap] w fun e w' => e = .returned (.string ⟨(hexOf (sha p)).toArray⟩) ∧ Below w.heap.size w w' := by
  have HP := Lib.hid hp
  have HL := Lib.hid hl
  clear hp hl
  go_enter Tryd.func10, Tryd.ntmps10
  have SZ : Hid ((#[.int .u8 0, .int .u8 0, .int .u8 0, .int .u8 0, .int .u8 0, .int .u8 0, .int .u8 0, .int .u8 0, .int .u8 0, .int .u8 0, .int .u8 0, .int .u8 0, .int .u8 0, .int .u8 0, .int .u8 0, .int .u8 0, .int .u8 0, .int .u8 0, .int .u8 0, .int .u8 0, .int .u8 0, .int .u8 0, .int .u8 0, .int .u8 0, .int .u8 0, .int .u8 0, .int .u8 0, .int .u8 0, .int .u8 0, .int .u8 0, .int .u8 0, .int .u8 0] : Array Value).size = (Bytes (sha p)).size) := by show _ = _; rw [Bytes_size, sha_length]; rfl
  go_upto_region 2 with (first
    | (go_at_call 8; (with_reducible refine Calls.mono (rsum_any pa p cap w HP.out HL.out) ?_); rintro e w1 ⟨rfl, hb1⟩; have B1 := Lib.hid hb1; have R1 := Lib.hid (heap_alloc_at w1 (.cells #[.int .u8 0, .int .u8 0, .int .u8 0, .int .u8 0, .int .u8 0, .int .u8 0, .int .u8 0, .int .u8 0, .int .u8 0, .int .u8 0, .int .u8 0, .int .u8 0, .int .u8 0, .int .u8 0, .int .u8 0, .int .u8 0, .int .u8 0, .int .u8 0, .int .u8 0, .int .u8 0, .int .u8 0, .int .u8 0, .int .u8 0, .int .u8 0, .int .u8 0, .int .u8 0, .int .u8 0, .int .u8 0, .int .u8 0, .int .u8 0, .int .u8 0, .int .u8 0] 23)); have z1 := hb1.size; clear hb1)
    | (with_reducible refine wpList_store_row rfl 23 (.tmp 3) (.tmp 10) rfl w1.heap.size (Bytes (sha p)) rfl rfl 23 #[.int .u8 0, .int .u8 0, .int .u8 0, .int .u8 0, .int .u8 0, .int .u8 0, .int .u8 0, .int .u8 0, .int .u8 0, .int .u8 0, .int .u8 0, .int .u8 0, .int .u8 0, .int .u8 0, .int .u8 0, .int .u8 0, .int .u8 0, .int .u8 0, .int .u8 0, .int .u8 0, .int .u8 0, .int .u8 0, .int .u8 0, .int .u8 0, .int .u8 0, .int .u8 0, .int .u8 0, .int .u8 0, .int .u8 0, .int .u8 0, .int .u8 0, .int .u8 0] R1.out (info23 p) SZ.out (Bytes_one _) ?_))
  have R2 : Hid (((w1.alloc (.cells #[.int .u8 0, .int .u8 0, .int .u8 0, .int .u8 0, .int .u8 0, .int .u8 0, .int .u8 0, .int .u8 0, .int .u8 0, .int .u8 0, .int .u8 0, .int .u8 0, .int .u8 0, .int .u8 0, .int .u8 0, .int .u8 0, .int .u8 0, .int .u8 0, .int .u8 0, .int .u8 0, .int .u8 0, .int .u8 0, .int .u8 0, .int .u8 0, .int .u8 0, .int .u8 0, .int .u8 0, .int .u8 0, .int .u8 0, .int .u8 0, .int .u8 0, .int .u8 0] 23)).setRow w1.heap.size (Bytes (sha p))).heap[w1.heap.size]? = some (.cells (Bytes (sha p)) 23 (0, 0))) := setRow_heap _ w1.heap.size _ _ 23 _ R1.out
  have B2 : Hid (Below w.heap.size w ((w1.alloc (.cells #[.int .u8 0, .int .u8 0, .int .u8 0, .int .u8 0, .int .u8 0, .int .u8 0, .int .u8 0, .int .u8 0, .int .u8 0, .int .u8 0, .int .u8 0, .int .u8 0, .int .u8 0, .int .u8 0, .int .u8 0, .int .u8 0, .int .u8 0, .int .u8 0, .int .u8 0, .int .u8 0, .int .u8 0, .int .u8 0, .int .u8 0, .int .u8 0, .int .u8 0, .int .u8 0, .int .u8 0, .int .u8 0, .int .u8 0, .int .u8 0, .int .u8 0, .int .u8 0] 23)).setRow w1.heap.size (Bytes (sha p)))) := below_setRow (B1.out.alloc z1 _) z1 _
  generalize (w1.alloc (.cells #[.int .u8 0, .int .u8 0, .int .u8 0, .int .u8 0, .int .u8 0, .int .u8 0, .int .u8 0, .int .u8 0, .int .u8 0, .int .u8 0, .int .u8 0, .int .u8 0, .int .u8 0, .int .u8 0, .int .u8 0, .int .u8 0, .int .u8 0, .int .u8 0, .int .u8 0, .int .u8 0, .int .u8 0, .int .u8 0, .int .u8 0, .int .u8 0, .int .u8 0, .int .u8 0, .int .u8 0, .int .u8 0, .int .u8 0, .int .u8 0, .int .u8 0, .int .u8 0] 23)).setRow w1.heap.size (Bytes (sha p)) = w2 at R2 B2 ⊢
  generalize w1.heap.size = r0 at R2 ⊢
  go_wp2_with fail
  go_loopw [4, 6] (fun sv iv wr => ∃ i : Nat, i ≤ 32 ∧ iv = .int .i64 i ∧ sv = .string ⟨(hexOf ((sha p).take i)).toArray⟩ ∧ Hid (Below w2.heap.size w2 wr)) (fun _ iv _ => 32 - (intOf iv).toNat)
  case atStart => exact ⟨0, by omega, rfl, rfl, Below.refl _ _⟩
  case round =>
    obtain ⟨i, hi, rfl, rfl, hB⟩ := hrel
    by_cases hlt : i < 32
    · obtain ⟨x, hx⟩ : ∃ x, (sha p)[i]? = some x := ⟨_, List.getElem?_eq_getElem (show i < 32 by omega)⟩
      have hx256 : x < 256 := sha_byte p x (List.mem_of_getElem? hx)
      have HN := Lib.hid (hexOf_next hx)
      have c0 : wr.cell? ⟨r0, i, none⟩ = some (B x) := cell_later hB.out (bytes_cell R2.out hx)
      have hii : (i : Int) < 32 := by omega
      have hh0 := fun W => quo16_B x W hx256
      have hh1 := fun W => rem16_B x W hx256
      have hh2 := slice_digs (x / 16) (by omega)
      have hh3 := slice_digs (x % 16) (by omega)
      have hlen : (hexOf ((sha p).take i)).length ≤ 64 := by rw [hexOf_length, List.length_take, sha_length]; omega
      have hh4 : ∀ W : World, (Op.stringOp .add ⟨(hexOf ((sha p).take i)).toArray⟩ ⟨#[digit (x / 16)]⟩).run Tryd.prog W = .ok (.string ⟨(hexOf ((sha p).take i) ++ [digit (x / 16)]).toArray⟩) W := fun W => by
        have := run_string_add_lists (P := Tryd.prog) W (hexOf ((sha p).take i)) [digit (x / 16)] (by omega) (by simp)
        exact this
      have hh5 : ∀ W : World, (Op.stringOp .add ⟨(hexOf ((sha p).take i) ++ [digit (x / 16)]).toArray⟩ ⟨#[digit (x % 16)]⟩).run Tryd.prog W = .ok (.string ⟨(hexOf ((sha p).take i) ++ [digit (x / 16)] ++ [digit (x % 16)]).toArray⟩) W := fun W => by
        have := run_string_add_lists (P := Tryd.prog) W (hexOf ((sha p).take i) ++ [digit (x / 16)]) [digit (x % 16)] (by simp; omega) (by simp)
        exact this
      obtain ⟨h1, hh⟩ : ∃ h : Nat, x / 16 = h := ⟨_, rfl⟩
      obtain ⟨h2, hl2⟩ : ∃ h : Nat, x % 16 = h := ⟨_, rfl⟩
      have h15 : h1 < 16 := by omega
      have l15 : h2 < 16 := by omega
      rw [hh] at HN hh0 hh2 hh4 hh5
      rw [hl2] at HN hh1 hh3 hh5
      have hw1 : IntKind.i64.wrap ((h1 : Int) + 1) = (h1 : Int) + 1 := by simp [IntKind.wrap, IntKind.bits, IntKind.signed]; omega
      have hw2 : IntKind.i64.wrap ((h2 : Int) + 1) = (h2 : Int) + 1 := by simp [IntKind.wrap, IntKind.bits, IntKind.signed]; omega
      obtain ⟨S0, hS0⟩ : ∃ S, hexOf ((sha p).take i) = S := ⟨_, rfl⟩
      obtain ⟨S1, hS1⟩ : ∃ S, S0 ++ [digit h1] = S := ⟨_, rfl⟩
      obtain ⟨S2, hS2⟩ : ∃ S, S1 ++ [digit h2] = S := ⟨_, rfl⟩
      rw [hS0] at HN hh4 hh5 ⊢
      rw [hS1] at HN hh4 hh5
      rw [hS2] at HN hh5
      clear hx hx256 hlen hh hl2 hS0 hS1 hS2
      go_upto_region 7 with fail
      go_quiet (fail)
      go_upto_region 8 with fail
      go_quiet (fail)
      go_wp2_with fail
      go_roundw
      case rel => exact ⟨i + 1, by omega, by go_num, by rw [HN.out], below_drewN hB.out _⟩
      case measure => simp [intOf]; omega
    · obtain rfl : i = 32 := by omega
      have hS : Hid ((sha p).take 32 = sha p) := List.take_of_length_le (by rw [sha_length]; omega)
      have BF : Hid (Below w.heap.size w wr) := B2.out.trans (hB.out.mono B2.out.size)
      have hii : ¬ ((32 : Nat) : Int) < 32 := by omega
      clear hB
      go_wp2_with fail
      go_ret
      exact ⟨by rw [hS.out]; rfl, BF.out⟩
end Go.Proofs.YtkhbkckcgfddlaaDoor
