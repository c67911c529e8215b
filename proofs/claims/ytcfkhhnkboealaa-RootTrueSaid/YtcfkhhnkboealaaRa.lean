/- Fractions: sizes without sign, products and quotients in order. No text of the program. -/
import Derived.Test.YtcfkhhnkboealaaRows
namespace Go.Proofs.Ytcfkhhnkboealaa
set_option linter.unusedVariables false
def ab (x : Rat) : Rat := if x < 0 then -x else x
theorem ab_nn (x : Rat) : 0 ≤ ab x := by unfold ab; grind
theorem ab_le {x e : Rat} : ab x ≤ e ↔ -e ≤ x ∧ x ≤ e := by unfold ab; grind
theorem ab_of (x : Rat) : -(ab x) ≤ x ∧ x ≤ ab x := by unfold ab; grind
theorem ab_pos {x : Rat} (h : 0 ≤ x) : ab x = x := by unfold ab; grind
theorem ab_neg (x : Rat) : ab (-x) = ab x := by unfold ab; grind
theorem ab_add (x y : Rat) : ab (x + y) ≤ ab x + ab y := by unfold ab; grind
theorem ab_sub (x y : Rat) : ab (x - y) ≤ ab x + ab y := by unfold ab; grind
theorem ab_comm (x y : Rat) : ab (x - y) = ab (y - x) := by unfold ab; grind
theorem ab_tri (x y z : Rat) : ab (x - z) ≤ ab (x - y) + ab (y - z) := by unfold ab; grind
theorem mul_nn {x y : Rat} (hx : 0 ≤ x) (hy : 0 ≤ y) : 0 ≤ x * y := Rat.mul_nonneg hx hy
theorem ab_mul (x y : Rat) : ab (x * y) = ab x * ab y := by
  rcases Rat.le_total (a := 0) (b := x) with h | h <;> rcases Rat.le_total (a := 0) (b := y) with k | k
  · rw [ab_pos h, ab_pos k, ab_pos (mul_nn h k)]
  · have := mul_nn h (y := -y) (by grind)
    have e : ab y = -y := by unfold ab; grind
    rw [ab_pos h, e, ← ab_neg, ab_pos (by grind)]; grind
  · have := mul_nn (x := -x) (by grind) k
    have e : ab x = -x := by unfold ab; grind
    rw [ab_pos k, e, ← ab_neg, ab_pos (by grind)]; grind
  · have := mul_nn (x := -x) (y := -y) (by grind) (by grind)
    have e : ab y = -y := by unfold ab; grind
    have e2 : ab x = -x := by unfold ab; grind
    rw [e, e2, ab_pos (by grind)]; grind
theorem mul_mono {a b c d : Rat} (ha : 0 ≤ a) (h : a ≤ b) (hc : 0 ≤ c) (k : c ≤ d) : a * c ≤ b * d := by
  have h1 := Rat.mul_le_mul_of_nonneg_right h hc
  have h2 := Rat.mul_le_mul_of_nonneg_left k (Rat.le_trans ha h)
  exact Rat.le_trans h1 h2
theorem le_div {a b c : Rat} (hc : 0 < c) : a ≤ b / c ↔ a * c ≤ b := by
  have e : b / c * c = b := by have : c ≠ 0 := by grind
                               grind
  constructor
  · intro h; have := Rat.mul_le_mul_of_nonneg_right h (Rat.le_of_lt hc); grind
  · intro h
    rw [← e] at h
    exact Rat.le_of_mul_le_mul_right h hc
theorem div_le {a b c : Rat} (hc : 0 < c) : b / c ≤ a ↔ b ≤ a * c := by
  have e : b / c * c = b := by have : c ≠ 0 := by grind
                               grind
  constructor
  · intro h; have := Rat.mul_le_mul_of_nonneg_right h (Rat.le_of_lt hc); grind
  · intro h
    rw [← e] at h
    exact Rat.le_of_mul_le_mul_right h hc
theorem ab_div (x y : Rat) : ab (x / y) = ab x / ab y := by
  by_cases h : y = 0
  · subst h; 
    have : ab 0 = 0 := by decide +kernel
    rw [this]; grind
  · have h2 : ab y ≠ 0 := by unfold ab; grind
    have := ab_mul (x / y) y
    have e : x / y * y = x := by grind
    rw [e] at this
    rw [this]; grind
theorem cast_le {a b : Nat} : ((a : Rat) ≤ (b : Rat)) ↔ a ≤ b := by exact_mod_cast Iff.rfl
theorem cast_mul (a b : Nat) : ((a * b : Nat) : Rat) = (a : Rat) * (b : Rat) := by grind
theorem cast_pow (a b : Nat) : ((a ^ b : Nat) : Rat) = (a : Rat) ^ b := by grind
theorem cast_le' {a b : Int} : ((a : Rat) ≤ (b : Rat)) ↔ a ≤ b := by exact_mod_cast Iff.rfl
theorem cast_nn (a : Nat) : (0 : Rat) ≤ (a : Rat) := by grind
end Go.Proofs.Ytcfkhhnkboealaa
