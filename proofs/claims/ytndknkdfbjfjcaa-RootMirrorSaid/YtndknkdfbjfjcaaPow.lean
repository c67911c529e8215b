/- Complex exponentials, logarithms and powers: what the program's functions come to. No condition. -/
import Derived.Test.YtndknkdfbjfjcaaCx
import Derived.Test.YtndknkdfbjfjcaaElem
import Derived.Test.YtndknkdfbjfjcaaAng4
import Derived.Test.YtndknkdfbjfjcaaAng6
namespace Go.Proofs.Ytndknkdfbjfjcaa
open Go.RowKit
set_option linter.unusedVariables false
set_option linter.unusedSimpArgs false
set_option maxRecDepth 100000
set_option maxHeartbeats 4000000

def cexpX (f g : Nat) : Nat := if feq g 0 then expF f else fmul (expF f) (turnC g)
def cexpY (f g : Nat) : Nat := if feq g 0 then g else fmul (expF f) (turnS g)
def clogX (f g : Nat) : Nat := logF (lenF f g)
def clogY (f g : Nat) : Nat := ofF g f
def crealX (f g p : Nat) : Nat := if feq p 0 then 4607182418800017408 else cexpX (fmul (clogX f g) p) (fmul (clogY f g) p)
def crealY (f g p : Nat) : Nat := if feq p 0 then 0 else cexpY (fmul (clogX f g) p) (fmul (clogY f g) p)
def mulX (f g h k : Nat) : Nat := fsub (fmul f h) (fmul g k)
def mulY (f g h k : Nat) : Nat := fadd (fmul f k) (fmul g h)
def cpowX (f g h k : Nat) : Nat := if feq h 0 && feq k 0 then 4607182418800017408 else cexpX (mulX h k (clogX f g) (clogY f g)) (mulY h k (clogX f g) (clogY f g))
def cpowY (f g h k : Nat) : Nat := if feq h 0 && feq k 0 then 0 else cexpY (mulX h k (clogX f g) (clogY f g)) (mulY h k (clogX f g) (clogY f g))
section
variable {x y z t f g h k : Nat} (hx : Rep x f) (hy : Rep y g) (hz : Rep z h) (ht : Rep t k) (w : World)
include hx hy
include hz
include ht
end
end Go.Proofs.Ytndknkdfbjfjcaa
