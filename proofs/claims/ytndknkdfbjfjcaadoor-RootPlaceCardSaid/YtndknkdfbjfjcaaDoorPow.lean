/- Complex exponentials, logarithms and powers: what the program's functions come to. No condition. -/
import Derived.Test.YtndknkdfbjfjcaaDoorCx
import Derived.Test.YtndknkdfbjfjcaaDoorElem
import Derived.Test.YtndknkdfbjfjcaaDoorAng4
import Derived.Test.YtndknkdfbjfjcaaDoorAng6
namespace Go.Proofs.YtndknkdfbjfjcaaDoor
open Go.RowKit
set_option linter.unusedVariables false
set_option linter.unusedSimpArgs false
set_option maxRecDepth 100000
set_option maxHeartbeats 4000000

def cexpX (f g : Nat) : Nat := if feq g 0 then expF f else fmul (expF f) (turnC g)
def cexpY (f g : Nat) : Nat := if feq g 0 then g else fmul (expF f) (turnS g)
def clogX (f g : Nat) : Nat := logF (lenF f g)
def clogY (f g : Nat) : Nat := ofF g f
def crealX (f g p : Nat) : Nat := if feq p 0 then 4607182418800017408 else cexpX (fmul (clogX f g) p) (fmul (clogY f g) p)
def crealY (f g p : Nat) : Nat := if feq p 0 then 0 else cexpY (fmul (clogX f g) p) (fmul (clogY f g) p)
def mulX (f g h k : Nat) : Nat := fsub (fmul f h) (fmul g k)
def mulY (f g h k : Nat) : Nat := fadd (fmul f k) (fmul g h)
def cpowX (f g h k : Nat) : Nat := if feq h 0 && feq k 0 then 4607182418800017408 else cexpX (mulX h k (clogX f g) (clogY f g)) (mulY h k (clogX f g) (clogY f g))
def cpowY (f g h k : Nat) : Nat := if feq h 0 && feq k 0 then 0 else cexpY (mulX h k (clogX f g) (clogY f g)) (mulY h k (clogX f g) (clogY f g))
section
variable {x y z t f g h k : Nat} (hx : Rep x f) (hy : Rep y g) (hz : Rep z h) (ht : Rep t k) (w : World)
include hx hy
theorem clog_c : Calls Tryd.prog 87 #[.complex .f64 x y] w (RetC (clogX f g) (clogY f g) w) := by
  go_enter Tryd.func87, Tryd.ntmps87
  go_wp2_with (first | (go_at_call 50; (with_reducible refine (length_c hx hy _).mono ?_); rintro e w' ⟨r, n, rfl, hr, rfl⟩) | (go_at_call 129; (with_reducible refine (log_c hr _).mono ?_); rintro e w' ⟨r2, n, rfl, hr2, rfl⟩) | (go_at_call 94; (with_reducible refine (of_c hx hy _).mono ?_); rintro e w' ⟨r3, n, rfl, hr3, rfl⟩))
  go_ret
  exact RetC.mk _ hr2 hr3
include hz
include ht
end
end Go.Proofs.YtndknkdfbjfjcaaDoor
