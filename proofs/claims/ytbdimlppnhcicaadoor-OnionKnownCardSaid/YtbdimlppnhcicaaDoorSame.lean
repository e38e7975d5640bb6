/- term: law.go's same, of two equal opened terms. -/
import Derived.Test.YtbdimlppnhcicaaDoorBa
import Derived.Deep.CutRange
namespace Go.Proofs.YtbdimlppnhcicaaDoor
set_option linter.unusedVariables false
open Go.RowKit
end Go.Proofs.YtbdimlppnhcicaaDoor
