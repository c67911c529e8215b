/- Units: their squares lie near to 1. No text of the program. -/
import Derived.Test.YtcfkhhnkboealaaSc
namespace Go.Proofs.Ytcfkhhnkboealaa
set_option linter.unusedVariables false
set_option linter.unusedSimpArgs false
set_option maxRecDepth 100000
theorem sq_off {p u d : Rat} (hp : ab p ≤ 101 / 100) (h : ab (u - p) ≤ d) (hd : d ≤ 1 / 1000000) : ab (u * u - p * p) ≤ 203 / 100 * d := by
  have e : u * u - p * p = (u - p) * (2 * p + (u - p)) := by grind
  have a := ab_add (2 * p) (u - p)
  have b : ab (2 * p) = 2 * ab p := by rw [ab_mul, show ab (2 : Rat) = 2 by decide +kernel]
  rw [b] at a
  rw [e, ab_mul]
  have d0 := ab_nn (u - p)
  have m := mul_mono d0 h (ab_nn (2 * p + (u - p))) (show ab (2 * p + (u - p)) ≤ 203 / 100 by grind)
  grind
theorem unit_core {p q u v c1 c2 n : Rat} (hQ : ab (p * p + q * q - 1) ≤ 42 / 10 * uu) (hp : ab p ≤ 101 / 100) (hq : ab q ≤ 101 / 100) (h1 : ab (u - p) ≤ 11 / 10 * uu) (h2 : ab (v - q) ≤ 11 / 10 * uu)
    (k1 : ab (c1 - u * u) ≤ 11 / 10 * uu) (k2 : ab (c2 - v * v) ≤ 11 / 10 * uu) (k3 : ab (n - (c1 + c2)) ≤ 11 / 10 * uu) : ab (n - 1) ≤ 14 * uu := by
  have hu : 0 < uu ∧ uu ≤ 1 / 10000000 := by decide +kernel
  have a := sq_off hp h1 (by grind)
  have b := sq_off hq h2 (by grind)
  generalize u * u = U2 at *
  generalize v * v = V2 at *
  generalize p * p = P2 at *
  generalize q * q = Q2 at *
  rw [ab_le] at *
  constructor <;> grind
end Go.Proofs.Ytcfkhhnkboealaa
