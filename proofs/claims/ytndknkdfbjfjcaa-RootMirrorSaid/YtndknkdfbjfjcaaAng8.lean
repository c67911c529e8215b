/- The angle of a place, by the document: what its steps come to. No condition. -/
import Derived.Test.YtndknkdfbjfjcaaAng7
namespace Go.Proofs.Ytndknkdfbjfjcaa
open Go.RowKit
set_option linter.unusedVariables false
set_option linter.unusedSimpArgs false
set_option maxRecDepth 100000
set_option maxHeartbeats 4000000
section
variable {x y z f g h : Nat} (hx : Rep x f) (hy : Rep y g) (w : World)
include hx hy
end
section
variable {x f : Nat} (hx : Rep x f) (w : World)
include hx
end
end Go.Proofs.Ytndknkdfbjfjcaa
