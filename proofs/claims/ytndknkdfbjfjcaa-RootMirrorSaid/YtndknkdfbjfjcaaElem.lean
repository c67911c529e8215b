/- Exponentials less one, half sums and half differences, of the program. No condition. -/
import Derived.Test.YtndknkdfbjfjcaaExp
import Derived.Test.YtndknkdfbjfjcaaMore
namespace Go.Proofs.Ytndknkdfbjfjcaa
open Go.RowKit
set_option linter.unusedVariables false
set_option linter.unusedSimpArgs false
set_option maxRecDepth 100000
set_option maxHeartbeats 4000000

def lessE (f : Nat) : Nat := if isN f then nanB else if flt 4649454594685214392 f then infP else if feq (expN f) 0 then fmul f (riseSeq f 12) else fsub (expF f) 4607182418800017408
def coshF (f : Nat) : Nat := fmul (fadd (expF f) (expF (fneg f))) 4602678819172646912
def sinhH (e : Nat) : Nat := if isInf e 1 then e else fmul (fadd e (fdiv e (fadd e 4607182418800017408))) 4602678819172646912
def sinhF (f : Nat) : Nat := if isN f then nanB else signed (sinhH (lessE (fabs f))) f
theorem sinhF_eq (f : Nat) : sinhF f = if isN f then nanB else if isInf (lessE (fabs f)) 1 then signed (lessE (fabs f)) f else signed (fmul (fadd (lessE (fabs f)) (fdiv (lessE (fabs f)) (fadd (lessE (fabs f)) 4607182418800017408))) 4602678819172646912) f := by
  unfold sinhF sinhH
  cases isInf (lessE (fabs f)) 1 <;> simp
section
variable {x y f g : Nat} (hx : Rep x f) (hy : Rep y g) (w : World)
include hx
end
end Go.Proofs.Ytndknkdfbjfjcaa
