/- term: law.go's same, of two equal opened terms. -/
import Derived.Test.YtbdimlppnhcicaaGreatDoorBa
import Derived.Deep.CutRange
namespace Go.Proofs.YtbdimlppnhcicaaGreatDoor
set_option linter.unusedVariables false
open Go.RowKit
end Go.Proofs.YtbdimlppnhcicaaGreatDoor
