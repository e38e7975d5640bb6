import Derived.Test.YtbdimlppnhcicaaGreatDoorVa
import Derived.Test.YtbdimlppnhcicaaGreatDoorBa
import Derived.Lib.AppendIntMem
/- term: what works asks for, in values. -/
namespace Go.Proofs.YtbdimlppnhcicaaGreatDoor
set_option linter.unusedVariables false
theorem name7 : nameV 7 = .tuple #[.string ⟨#[110, 55, 59]⟩, .int .i64 0] := by
  unfold nameV nameS
  rw [if_neg (by decide), show (7 : Int) = ((7 : Nat) : Int) from rfl, Lib.itoa_nonneg, Lib.decDigits_one (by omega)]
  rfl
theorem text_ab : textV ⟨#[97, 98]⟩ = .tuple #[.string ⟨#[116, 50, 58, 97, 98]⟩, .int .i64 0] := by
  unfold textV textS
  rw [if_neg (by decide), show ((⟨#[97, 98]⟩ : ByteArray).size : Int) = ((2 : Nat) : Int) from rfl, Lib.itoa_nonneg, Lib.decDigits_one (by omega)]
  rfl
theorem read_n7 : readP [110, 55, 59] = some ⟨110, 7, [], [], 1⟩ := by rfl
theorem read_tab : readP [116, 50, 58, 97, 98] = some ⟨116, 0, [97, 98], [], 1⟩ := by rfl
theorem pub_n7 : pubV ⟨#[110, 55, 59]⟩ = .tuple #[.string ⟨#[80, 110, 55, 59]⟩, .int .i64 0] := by
  have h : rt ⟨#[110, 55, 59]⟩ = true := rfl
  have h2 : keyS ⟨#[110, 55, 59]⟩ = ⟨#[80, 110, 55, 59]⟩ := by
    rw [keyS_else _ _ read_n7 (by decide) (by decide)]; rfl
  have h3 : rt ⟨#[80, 110, 55, 59]⟩ = true := rfl
  unfold pubV wholeV
  rw [if_pos h, h2, if_pos h3]
theorem sign_n7 : buildV ⟨#[83]⟩ [⟨#[110, 55, 59]⟩, ⟨#[116, 50, 58, 97, 98]⟩] = .tuple #[.string ⟨#[83, 110, 55, 59, 116, 50, 58, 97, 98]⟩, .int .i64 0] := by
  have h : [⟨#[110, 55, 59]⟩, (⟨#[116, 50, 58, 97, 98]⟩ : ByteArray)].all rt = true := rfl
  have h3 : rt ⟨#[83, 110, 55, 59, 116, 50, 58, 97, 98]⟩ = true := rfl
  unfold buildV wholeV
  rw [if_pos h]
  exact if_pos h3 ▸ rfl
theorem box_n7 : buildV ⟨#[66]⟩ [⟨#[110, 55, 59]⟩, ⟨#[116, 50, 58, 97, 98]⟩] = .tuple #[.string ⟨#[66, 110, 55, 59, 116, 50, 58, 97, 98]⟩, .int .i64 0] := by
  have h : [⟨#[110, 55, 59]⟩, (⟨#[116, 50, 58, 97, 98]⟩ : ByteArray)].all rt = true := rfl
  have h3 : rt ⟨#[66, 110, 55, 59, 116, 50, 58, 97, 98]⟩ = true := rfl
  unfold buildV wholeV
  rw [if_pos h]
  exact if_pos h3 ▸ rfl
theorem read_box : readP [66, 110, 55, 59, 116, 50, 58, 97, 98] = some ⟨66, 0, [], [[110, 55, 59], [116, 50, 58, 97, 98]], 2⟩ := by rfl
theorem read_sign : readP [83, 110, 55, 59, 116, 50, 58, 97, 98] = some ⟨83, 0, [], [[110, 55, 59], [116, 50, 58, 97, 98]], 2⟩ := by rfl
theorem unbox_n7 : unboxO ⟨#[110, 55, 59]⟩ ⟨#[66, 110, 55, 59, 116, 50, 58, 97, 98]⟩ = some ⟨#[116, 50, 58, 97, 98]⟩ := by
  unfold unboxO
  rw [show (⟨#[66, 110, 55, 59, 116, 50, 58, 97, 98]⟩ : ByteArray).data.toList = [66, 110, 55, 59, 116, 50, 58, 97, 98] from rfl, read_box]
  rfl
theorem verify_n7 : verifyB ⟨#[80, 110, 55, 59]⟩ ⟨#[116, 50, 58, 97, 98]⟩ ⟨#[83, 110, 55, 59, 116, 50, 58, 97, 98]⟩ = true := by
  unfold verifyB
  rw [show (⟨#[83, 110, 55, 59, 116, 50, 58, 97, 98]⟩ : ByteArray).data.toList = [83, 110, 55, 59, 116, 50, 58, 97, 98] from rfl, read_sign]
  simp only [nth, List.getD_cons_zero, List.getD_cons_succ]
  rw [keyB_else read_n7 (by decide) (by decide)]
  rfl
end Go.Proofs.YtbdimlppnhcicaaGreatDoor
/- term: law.go's works. -/
namespace Go.Proofs.YtbdimlppnhcicaaGreatDoor
set_option linter.unusedVariables false
open Go.RowKit
theorem verify_not : verifyB ⟨#[110, 55, 59]⟩ ⟨#[116, 50, 58, 97, 98]⟩ ⟨#[83, 110, 55, 59, 116, 50, 58, 97, 98]⟩ = false := by
  unfold verifyB
  rw [show (⟨#[83, 110, 55, 59, 116, 50, 58, 97, 98]⟩ : ByteArray).data.toList = [83, 110, 55, 59, 116, 50, 58, 97, 98] from rfl, read_sign]
  simp only [nth, List.getD_cons_zero, List.getD_cons_succ]
  rw [keyB_else read_n7 (by decide) (by decide)]
  rfl
theorem deep_sign : deepN [83, 110, 55, 59, 116, 50, 58, 97, 98] = 2 := by unfold deepN; rw [read_sign]
theorem Tab.below {w w' : World} (h : Tab w) (hb : Below w.heap.size w w') : Tab w' := Lib.tabBelow_of_tabIs h w' hb
end Go.Proofs.YtbdimlppnhcicaaGreatDoor
