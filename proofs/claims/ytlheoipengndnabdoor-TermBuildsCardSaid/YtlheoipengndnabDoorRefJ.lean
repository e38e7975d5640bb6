/- term: the document's Open, all of it. -/
import Derived.Test.YtlheoipengndnabDoorRefI
import Derived.Test.YtlheoipengndnabDoorPlainA
namespace Go.Proofs.YtlheoipengndnabDoor
set_option linter.unusedVariables false
open Go.RowKit
theorem ropen_any (t : ByteArray) (w : World) (hm : t.size ≤ maxLen) : Calls Tryd.prog 39 #[.string t] w (OpenPost (readP t.data.toList) w) := by
  cases ho : readP t.data.toList with
  | none => exact ropen_no t w hm (by unfold rightB; rw [ho]; rfl)
  | some x =>
    obtain ⟨hp, hl⟩ := read_parse ho
    have hr : rightB t.data.toList = true := by unfold rightB; rw [ho]; rfl
    have hs : t.size ≤ 16384 := by rw [← list_size]; exact hl
    by_cases h1 : x.op = 110
    · exact ropen_name t w hm hs x hr hp h1
    · by_cases h2 : x.op = 116
      · exact ropen_text t w hm hs x hr hp h2
      · exact ropen_parts t w hm hs x hr hp h1 h2
end Go.Proofs.YtlheoipengndnabDoor
