/- Sine and cosine together, and wrapped angles: the program's and the document's come to one. No condition. -/
import Derived.Test.YtndknkdfbjfjcaaAng3
namespace Go.Proofs.Ytndknkdfbjfjcaa
open Go.RowKit
set_option linter.unusedVariables false
set_option linter.unusedSimpArgs false
set_option maxRecDepth 100000
set_option maxHeartbeats 4000000

theorem fneg_fneg {f : Nat} (hl : f < 18446744073709551616) (hn : nrm f = f) : fneg (fneg f) = f := by
  cases h : isN f
  · have e := fneg_wd hl h
    have hr := (notN_iff f).1 h
    rw [e, wd_neg hr, Bool.not_not, ← num_wd hl]
  · rw [nrm_of h] at hn; rw [← hn]; decide +kernel
def turnS (f : Nat) : Nat :=
  if quarterN f = 0 then sineF (quarterX f) else if quarterN f = 1 then cosF (quarterX f) else if quarterN f = 2 then fneg (sineF (quarterX f)) else fneg (cosF (quarterX f))
def turnC (f : Nat) : Nat :=
  if quarterN f = 0 then cosF (quarterX f) else if quarterN f = 1 then fneg (sineF (quarterX f)) else if quarterN f = 2 then fneg (cosF (quarterX f)) else sineF (quarterX f)
theorem quarterN_cases (f : Nat) : quarterN f = 0 ∨ quarterN f = 1 ∨ quarterN f = 2 ∨ quarterN f = 3 := by
  unfold quarterN
  split
  · split <;> omega
  · omega
theorem sineF_lt (y : Nat) : sineF y < 18446744073709551616 := canon_map_lt _
theorem sineF_nrm (y : Nat) : nrm (sineF y) = sineF y := nrm_fmul _ _
theorem turn_unfit {f : Nat} (h : fit f = false) : turnS f = nanB ∧ turnC f = nanB := by
  have e1 : quarterN f = 0 := by unfold quarterN; rw [if_neg (by rw [h]; simp)]
  have e2 : quarterX f = nanB := by unfold quarterX; rw [if_neg (by rw [h]; simp)]
  unfold turnS turnC
  rw [e1, e2, if_pos rfl, if_pos rfl]
  decide +kernel
section
variable {x y f g : Nat} (hx : Rep x f) (hy : Rep y g) (w : World)
include hx
end
end Go.Proofs.Ytndknkdfbjfjcaa
