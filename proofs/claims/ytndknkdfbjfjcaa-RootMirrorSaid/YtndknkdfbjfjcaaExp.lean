/- Exponentials: what the program's steps come to. No condition. -/
import Derived.Test.YtndknkdfbjfjcaaBd
import Derived.Test.YtndknkdfbjfjcaaLog2
namespace Go.Proofs.Ytndknkdfbjfjcaa
open Go.RowKit
set_option linter.unusedVariables false
set_option linter.unusedSimpArgs false
set_option maxRecDepth 100000
set_option maxHeartbeats 4000000

def riseSeq (r : Nat) : Nat → Nat
  | 0 => 4607182418800017408
  | k + 1 => fadd 4607182418800017408 (fdiv (fmul r (riseSeq r k)) (ofInt (13 - (k : Int))))
def expN (f : Nat) : Nat := wholeF (fmul f 4609176140021203710)
def expR (f : Nat) : Nat := fsub (fsub f (fmul (expN f) 4604418534311723008)) (fmul (expN f) 4461442080421002358)
def expF (f : Nat) : Nat := if isN f then nanB else if flt 4649454594685214392 f then infP else if flt f 13873137573428325253 then 0 else scaleF (riseSeq (expR f) 13) (clampN (wInt (expN f)))
theorem Rep.cturned : Rep 4609176140021203710 4609176140021203710 := Rep.self (by decide) (by decide +kernel)
theorem Rep.cgreat : Rep 4649454594685214392 4649454594685214392 := Rep.self (by decide) (by decide +kernel)
theorem Rep.csmall : Rep 13873137573428325253 13873137573428325253 := Rep.self (by decide) (by decide +kernel)
theorem exp_closed : sval 4649454594685214392 ≤ ((2 ^ 10 * U : Nat) : Int) ∧ -((2 ^ 10 * U : Nat) : Int) ≤ sval 13873137573428325253 ∧ 2 ^ 10 * U < mval 9218868437227405312 := by decide +kernel
theorem exp_bd {f : Nat} (hl : f < 18446744073709551616) (h1 : isN f = false) (h2 : flt 4649454594685214392 f = false) (h3 : flt f 13873137573428325253 = false) : Bd f 10 := by
  rw [flt_eq, h1, show isN 4649454594685214392 = false by decide +kernel] at h2
  rw [flt_eq, h1, show isN 13873137573428325253 = false by decide +kernel] at h3
  simp only [Bool.not_false, Bool.true_and, decide_eq_false_iff_not] at h2 h3
  obtain ⟨c1, c2, c3⟩ := exp_closed
  have hm : mval (rung f) ≤ 2 ^ 10 * U := by
    generalize 2 ^ 10 * U = B at *
    generalize sval 4649454594685214392 = G at *
    generalize sval 13873137573428325253 = S at *
    rcases sval_cases f with ⟨_, e⟩ | ⟨_, e⟩ <;> rw [e] at h2 h3 <;> omega
  refine ⟨hl, ?_, hm⟩
  unfold Proofs.Ytndknkdfbjfjcaa.fin
  have := mval_lt_iff.1 (Nat.lt_of_le_of_lt hm c3)
  simpa using this
section
variable {x y f g : Nat} (hx : Rep x f) (hy : Rep y g) (w : World)
include hx
end
end Go.Proofs.Ytndknkdfbjfjcaa
