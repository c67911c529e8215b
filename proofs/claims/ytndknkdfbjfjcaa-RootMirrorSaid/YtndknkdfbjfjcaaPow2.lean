/- Complex sines and cosines, the plain ones and the hyperbolic ones; the law's own checks. No condition. -/
import Derived.Test.YtndknkdfbjfjcaaBent0
import Derived.Test.YtndknkdfbjfjcaaBent1
import Derived.Test.YtndknkdfbjfjcaaMirC
namespace Go.Proofs.Ytndknkdfbjfjcaa
open Go.RowKit
set_option linter.unusedVariables false
set_option linter.unusedSimpArgs false
set_option maxRecDepth 100000
set_option maxHeartbeats 4000000
section
variable {x y z t f g h k : Nat} (hx : Rep x f) (hy : Rep y g) (hz : Rep z h) (ht : Rep t k) (w : World)
include hx hy
include hz ht
end
theorem pow_closed : expF 4607182418800017408 < 9218868437227405312 ∧ cexpX 4607182418800017408 0 = expF 4607182418800017408 ∧ cexpY 4607182418800017408 0 = 0 ∧ flt 4613937818241073152 4614256656552045848 = true ∧ clogX 13830554455654793216 0 = 0 ∧ clogY 13830554455654793216 0 = 4614256656552045848 ∧ flt 4604480259023595110 (crealY 0 4607182418800017408 4602678819172646912) = true := by decide +kernel
theorem Rep.c3 : Rep 4613937818241073152 4613937818241073152 := Rep.self (by decide) (by decide +kernel)
theorem Rep.c07 : Rep 4604480259023595110 4604480259023595110 := Rep.self (by decide) (by decide +kernel)
end Go.Proofs.Ytndknkdfbjfjcaa
