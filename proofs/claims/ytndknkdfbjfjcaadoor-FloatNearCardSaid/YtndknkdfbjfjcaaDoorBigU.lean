/- The nearest float to a quotient of whole numbers: plain. -/
import Derived.Test.YtndknkdfbjfjcaaDoorBigT
namespace Go.Proofs.YtndknkdfbjfjcaaDoor
open Go.RowKit
set_option linter.unusedVariables false
set_option linter.unusedSimpArgs false
set_option maxRecDepth 100000
def nrU (a d : Nat) : Int := max ((bl a : Int) - (bl d : Int) - 53) (-1074)
def nrA (a d : Nat) : Nat := a * 2 ^ (-(nrU a d)).toNat
def nrD (a d : Nat) : Nat := d * 2 ^ (nrU a d).toNat
theorem pow_split {x y z : Nat} (h : x = y + z) : 2 ^ x = 2 ^ y * 2 ^ z := by rw [h, Nat.pow_add]
/-- the quotient has at most 54 bits. -/
theorem nr_lt {a d : Nat} (ha : a ≠ 0) (hd : d ≠ 0) : nrA a d / nrD a d < 2 ^ 54 := by
  have a1 := bl_lt a
  have d1 := bl_ge hd
  have d0 : 0 < bl d := by unfold bl; rw [if_neg hd]; exact Nat.succ_pos _
  have hD : 0 < nrD a d := Nat.mul_pos (Nat.pos_of_ne_zero hd) (Nat.two_pow_pos _)
  rw [Nat.div_lt_iff_lt_mul hD]
  unfold nrA nrD
  generalize hu : nrU a d = u
  have hu2 : (bl a : Int) - (bl d : Int) - 53 ≤ u := by rw [← hu]; unfold nrU; omega
  calc a * 2 ^ (-u).toNat < 2 ^ bl a * 2 ^ (-u).toNat := Nat.mul_lt_mul_of_pos_right a1 (Nat.two_pow_pos _)
    _ = 2 ^ (bl a + (-u).toNat) := (Nat.pow_add _ _ _).symm
    _ ≤ 2 ^ (54 + ((bl d - 1) + u.toNat)) := Nat.pow_le_pow_right (by decide) (by omega)
    _ = 2 ^ 54 * (2 ^ (bl d - 1) * 2 ^ u.toNat) := by rw [Nat.pow_add, Nat.pow_add]
    _ ≤ 2 ^ 54 * (d * 2 ^ u.toNat) := Nat.mul_le_mul_left _ (Nat.mul_le_mul_right _ d1)
/-- and at least 53 of them, where the unit is not the least one. -/
theorem nr_ge {a d : Nat} (ha : a ≠ 0) (hd : d ≠ 0) (hu0 : -1074 < nrU a d) : 2 ^ 52 ≤ nrA a d / nrD a d := by
  have a1 := bl_ge ha
  have d1 := bl_lt d
  have a0 : 0 < bl a := by unfold bl; rw [if_neg ha]; exact Nat.succ_pos _
  have hD : 0 < nrD a d := Nat.mul_pos (Nat.pos_of_ne_zero hd) (Nat.two_pow_pos _)
  rw [Nat.le_div_iff_mul_le hD]
  unfold nrA nrD
  have hu2 : nrU a d = (bl a : Int) - (bl d : Int) - 53 := by unfold nrU at hu0 ⊢; omega
  generalize nrU a d = u at hu2
  calc 2 ^ 52 * (d * 2 ^ u.toNat) ≤ 2 ^ 52 * (2 ^ bl d * 2 ^ u.toNat) := Nat.mul_le_mul_left _ (Nat.mul_le_mul_right _ (Nat.le_of_lt d1))
    _ = 2 ^ (52 + (bl d + u.toNat)) := by rw [Nat.pow_add, Nat.pow_add]
    _ ≤ 2 ^ ((bl a - 1) + (-u).toNat) := Nat.pow_le_pow_right (by decide) (by omega)
    _ = 2 ^ (bl a - 1) * 2 ^ (-u).toNat := Nat.pow_add _ _ _
    _ ≤ a * 2 ^ (-u).toNat := Nat.mul_le_mul_right _ a1
end Go.Proofs.YtndknkdfbjfjcaaDoor
