/- term: reader.term is parse. -/
import Derived.Lib.ParseIntB
import Derived.Lib.Bytealg
import Derived.Shelf.Small.Strs
import Derived.Shelf.Strconv.Itoa0
import Derived.Shelf.Strconv.ParseIntEmpty
import Derived.Shelf.LaysM
import Derived.Shelf.Strconv.Clone
import Derived.Shelf.Strconv.SyntaxError
import Derived.Shelf.LaysC
import Derived.Shelf.Strconv.ToError
import Derived.Shelf.Strconv.Lower
import Derived.Shelf.Strconv.ParseUint10
import Derived.Shelf.Strconv.ParseUint10Empty
import Derived.Shelf.Strconv.ParseUint10Any
import Derived.Shelf.Strconv.ParseInt10
import Derived.Shelf.Strconv.RangeError
import Derived.Shelf.Strconv.ToErrorRange
import Derived.Shelf.Strconv.ParseUintEmpty
import Derived.Shelf.Strconv.ParseUint10b64
import Derived.Shelf.Strconv.ParseUint10b32
import Derived.Shelf.Strconv.ParseUint10b16
import Derived.Shelf.Strconv.ParseUint10b8
import Derived.Shelf.Strconv.ParseUint10At
import Derived.Shelf.Strconv.ParseInt10At64
import Derived.Shelf.Strconv.ParseInt10At32
import Derived.Shelf.Strconv.ParseInt10At16
import Derived.Shelf.Strconv.ParseInt10At8
import Derived.Shelf.Strconv.ParseInt10All
import Derived.Shelf.Strconv.ParseIntPublic10
import Derived.Shelf.Strconv.ErrVarParseInt
import Derived.Shelf.Strings.Search1
import Derived.WalkKit
import Derived.WalkSpells
import Derived.WalkLawsBesides
import Derived.Handy
import Derived.Lib.Hide
import Derived.Deep.QuietTactic
import Derived.BigQuiet
import Derived.Deep.RegionHeld3
import Derived.Lib.Strings
import Derived.Lib.IndexBytes
import Derived.BigRegion
import Derived.Deep.RegionLaw
import Derived.Deep.AppendLies
import Derived.Deep.LoopGhost
import Derived.Deep.Onto
import Derived.Deep.WholeRow
import Derived.Deep.CutRange
import Derived.Test.YtakfhoodjcfpcaaDoorRows
import Derived.Test.YtakfhoodjcfpcaaDoorProg
import Derived.Test.YtakfhoodjcfpcaaDoorTlI
import Derived.Test.YtakfhoodjcfpcaaDoorNumB
import Derived.Test.YtakfhoodjcfpcaaDoorTa
import Derived.Test.YtakfhoodjcfpcaaDoorTermK
namespace Go.Proofs.YtakfhoodjcfpcaaDoor
set_option linter.unusedVariables false
open Go.RowKit
theorem form_cases {c : UInt8} {f : Nat} (h : formOf c = some f) : f = 73 ∨ f = 74 ∨ f = 75 ∨ f = 76 ∨ f = 77 := by
  unfold formOf at h
  by_cases h110 : c = 110
  · rw [if_pos h110] at h; cases h; decide
  rw [if_neg h110] at h
  by_cases h116 : c = 116
  · rw [if_pos h116] at h; cases h; decide
  rw [if_neg h116] at h
  by_cases h84 : c = 84
  · rw [if_pos h84] at h; cases h; decide
  rw [if_neg h84] at h
  by_cases h80 : c = 80
  · rw [if_pos h80] at h; cases h; decide
  rw [if_neg h80] at h
  by_cases h72 : c = 72
  · rw [if_pos h72] at h; cases h; decide
  rw [if_neg h72] at h
  by_cases h83 : c = 83
  · rw [if_pos h83] at h; cases h; decide
  rw [if_neg h83] at h
  by_cases h66 : c = 66
  · rw [if_pos h66] at h; cases h; decide
  rw [if_neg h66] at h
  by_cases h88 : c = 88
  · rw [if_pos h88] at h; cases h; decide
  rw [if_neg h88] at h
  by_cases h68 : c = 68
  · rw [if_pos h68] at h; cases h; decide
  rw [if_neg h68] at h
  by_cases h86 : c = 86
  · rw [if_pos h86] at h; cases h; decide
  rw [if_neg h86] at h
  by_cases h87 : c = 87
  · rw [if_pos h87] at h; cases h; decide
  rw [if_neg h87] at h
  by_cases h75 : c = 75
  · rw [if_pos h75] at h; cases h; decide
  rw [if_neg h75] at h
  by_cases h76 : c = 76
  · rw [if_pos h76] at h; cases h; decide
  rw [if_neg h76] at h
  cases h
/-- reader.term is parse -/
theorem term_any (rb : Nat) (s : ByteArray) (h6 : 3 ≤ rb) (hs : s.size ≤ 16384) : ∀ R, R ≤ 64 → TermAt rb R s
  | 0, _ => fun a W ha hR _ => by
    rw [show parse 0 (s.data.toList.drop a) = none from rfl]
    rcases Nat.lt_or_ge a s.size with h | h
    · exact term_room rb a 0 s W hR h hs (by omega)
    · exact term_end rb a 0 s W hR (by omega) hs (by omega)
  | R + 1, hR64 => fun a W ha hR hL => by
    have hT := term_any rb s h6 hs R (by omega)
    rcases Nat.lt_or_ge a s.size with h | h
    · cases hf : formOf s[a] with
      | none => exact term_none rb a R s W hR h hs (by omega) hL h6 _ rfl hf
      | some f =>
        have hff := form_cases hf
        rcases hff with rfl | rfl | rfl | rfl | rfl
        · exact term_62 rb a R s W hR h hs (by omega) hL h6 hT _ rfl hf
        · exact term_63 rb a R s W hR h hs (by omega) hL h6 hT _ rfl hf
        · exact term_64 rb a R s W hR h hs (by omega) hL h6 hT _ rfl hf
        · exact term_65 rb a R s W hR h hs (by omega) hL h6 hT _ rfl hf
        · exact term_66 rb a R s W hR h hs (by omega) hL h6 hT _ rfl hf
    · obtain rfl : a = s.size := by omega
      have hd : s.data.toList.drop s.size = [] := by
        apply List.drop_of_length_le
        show s.data.toList.length ≤ s.data.size
        rw [Array.length_toList]; exact Nat.le_refl _
      rw [hd, parse_nil]
      exact term_end rb _ (R + 1) s W hR rfl hs hR64
end Go.Proofs.YtakfhoodjcfpcaaDoor
