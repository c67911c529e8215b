/- The law's own check on a few closed examples answers true. No condition. -/
import Derived.Test.YtndknkdfbjfjcaaDoorSum
namespace Go.Proofs.YtndknkdfbjfjcaaDoor
open Go.RowKit
set_option linter.unusedVariables false
set_option maxRecDepth 100000
theorem grown_drewN' {w w' : World} (n : Nat) (h : Grown w w') : Grown w (w'.drewN n) := h
end Go.Proofs.YtndknkdfbjfjcaaDoor
