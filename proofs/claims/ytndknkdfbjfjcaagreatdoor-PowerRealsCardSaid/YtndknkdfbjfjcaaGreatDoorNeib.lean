/- The document's neighbours of floats are the program's. -/
import Derived.Test.YtndknkdfbjfjcaaGreatDoorStra
import Derived.Test.YtndknkdfbjfjcaaGreatDoorPara
namespace Go.Proofs.YtndknkdfbjfjcaaGreatDoor
open Go.RowKit
set_option linter.unusedVariables false
set_option linter.unusedSimpArgs false
set_option maxRecDepth 100000
set_option maxHeartbeats 4000000
theorem sz_drew {w : World} {k : Nat} (n : Nat) (h : k < w.heap.size) : k < (w.drewN n).heap.size := h
theorem fneg_fneg {f : Nat} (hl : f < 18446744073709551616) (hn : nrm f = f) : fneg (fneg f) = f := by
  cases h : isN f
  · rw [fneg_wd hl h, wd_neg ((notN_iff f).1 h), Bool.not_not, wd_self hl]
  · rw [nrm_of h] at hn; subst hn; decide +kernel
theorem nrm_up {f : Nat} (hl : f < 18446744073709551616) (hn : nrm f = f) : nrm (upF f) = upF f ∧ nrm (downF f) = downF f ∧ downF f < 18446744073709551616 := by
  cases h : isN f
  · exact ⟨nrm_of_not (up_ok hl h).1, nrm_of_not (down_ok hl h).1, (down_ok hl h).2⟩
  · rw [nrm_of h] at hn; subst hn; decide +kernel
section
variable {x f : Nat} (hx : Rep x f) (w : World)
include hx
end
end Go.Proofs.YtndknkdfbjfjcaaGreatDoor
