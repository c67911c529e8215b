/- Complex roots, units, places, nearness: what the program's functions come to. -/
import Derived.Test.YtndknkdfbjfjcaaGreatDoorPow2
import Derived.Test.YtndknkdfbjfjcaaGreatDoorMirC
namespace Go.Proofs.YtndknkdfbjfjcaaGreatDoor
open Go.RowKit
set_option linter.unusedVariables false
set_option linter.unusedSimpArgs false
set_option maxRecDepth 100000
set_option maxHeartbeats 4000000
def rootK (f g : Nat) : Int := partE (greatF f g) / 2
def rootS (f g : Nat) : Nat := scaleF (fsqrt (fdiv (fadd (scaleF (fabs f) (clampN (-2 * rootK f g))) (fsqrt (sqF (scaleF (fabs f) (clampN (-2 * rootK f g))) (scaleF g (clampN (-2 * rootK f g)))))) 4611686018427387904)) (clampN (rootK f g))
def edgeIs (f g : Nat) : Bool := isInf g 0 || (isInf f 1 || (isInf f (-1) || (isN f || (isN g || (feq f 0 && feq g 0)))))
def edgeX (f g : Nat) : Nat := if isInf g 0 then infP else if isInf f 1 then infP else if isInf f (-1) then (if isN g then nanB else 0) else if isN f || isN g then nanB else 0
def edgeY (f g : Nat) : Nat := if isInf g 0 then g else if isInf f 1 then (if isN g then nanB else copyF 0 g) else if isInf f (-1) then (if isN g then infP else copyF infP g) else if isN f || isN g then nanB else if feq f 0 && feq g 0 then g else 0
def rootX (f g : Nat) : Nat := if edgeIs f g then edgeX f g else if fle 0 f then rootS f g else fdiv (fabs g) (fmul 4611686018427387904 (rootS f g))
def rootY (f g : Nat) : Nat := if edgeIs f g then edgeY f g else if fle 0 f then fdiv g (fmul 4611686018427387904 (rootS f g)) else copyF (rootS f g) g
def unitX (f g : Nat) : Nat := fdiv (scN f (lenK f g)) (fsqrt (sqF (scN f (lenK f g)) (scN g (lenK f g))))
def unitY (f g : Nat) : Nat := fdiv (scN g (lenK f g)) (fsqrt (sqF (scN f (lenK f g)) (scN g (lenK f g))))
section
variable {x y z t f g h k : Nat} (hx : Rep x f) (hy : Rep y g) (hz : Rep z h) (ht : Rep t k) (w : World)
theorem copysign_any (hx : Rep x f) (hy : Rep y g) (hg : isN g = false) : Calls Tryz.prog 100 #[.float .f64 x, .float .f64 y] w (RetF (copyF f g) w) := by
  have h1 := Lib.hid (copy_bits x y)
  have h3 := Lib.hid (hy.sgn_of hg)
  have h4 : RowKit.Hid (nrm (rung x + if sgn g then 9223372036854775808 else 0) = copyF f g) := Lib.hid (by
    cases hf : isN f
    · rw [hx.rung_of hf]; rfl
    · have hxn : isN x = true := by rw [hx.of_isN, hf]
      have a := (isN_iff x).1 hxn
      have hr : rung x = x % 9223372036854775808 := rfl
      have e1 : isN (rung x + if sgn g then 9223372036854775808 else 0) = true := by rw [isN_iff]; split <;> omega
      have e2 : copyF f g = nanB := by
        rw [hx.nan_of hf]
        unfold copyF
        cases sgn g <;> decide +kernel
      rw [nrm_of e1, e2])
  go_enter Tryz.func100, Tryz.ntmps100
  go_wp2
  go_ret
  refine RetF.mk0 ⟨?_, ?_⟩
  · rw [h1.out]; have := rung_lt x; split <;> omega
  · rw [h1.out, h3.out, h4.out]
include hx
include hy
end
end Go.Proofs.YtndknkdfbjfjcaaGreatDoor
