/- Quarters, sines and cosines of any float: the program's and the document's come to one. No condition. -/
import Derived.Test.YtndknkdfbjfjcaaAng2
import Derived.Test.YtndknkdfbjfjcaaBd
namespace Go.Proofs.Ytndknkdfbjfjcaa
open Go.RowKit
set_option linter.unusedVariables false
set_option linter.unusedSimpArgs false
set_option maxRecDepth 100000
set_option maxHeartbeats 4000000

theorem bits_and3 (n : Int) : bits .and .i64 n 3 = n % 4 := by
  have h3 : (BitVec.ofInt 64 3).toNat = 2 ^ 2 - 1 := by decide
  have key : (BitVec.ofInt 64 n &&& BitVec.ofInt 64 3).toNat = (n % ((2 ^ 64 : Nat) : Int)).toNat % 2 ^ 2 := by
    rw [BitVec.toNat_and, BitVec.toNat_ofInt, h3, Nat.and_two_pow_sub_one_eq_mod]
  show IntKind.i64.wrap ((BitVec.ofInt 64 n &&& BitVec.ofInt 64 3).toNat : Nat) = n % 4
  rw [key, IntKind.wrap_i64]
  omega
def quarterM (f : Nat) : Nat := wholeF (fmul f 4603909380684499075)
def quarterX (f : Nat) : Nat := if fit f then (if feq (quarterM f) 0 then f else lessF f (quarterM f) 4607182418800017408) else nanB
def quarterN (f : Nat) : Int := if fit f then (if feq (quarterM f) 0 then 0 else wInt (quarterM f) % 4) else 0
theorem quarterM_bd {f : Nat} (hl : f < 18446744073709551616) (h : fit f = true) : Bd (quarterM f) 20 :=
  (((fit_bd hl h).mul (Bd.const' (k := 0) (by decide) (by decide +kernel) (by decide +kernel) (by decide)) (by decide)).whole (by decide)).1
theorem Rep.cq : Rep 4603909380684499075 4603909380684499075 := Rep.self (by decide) (by decide +kernel)
theorem Rep.c20 : Rep 4697254411347427328 4697254411347427328 := Rep.self (by decide) (by decide +kernel)
theorem tmod4 (n : Int) : (if n.tmod 4 < 0 then n.tmod 4 + 4 else n.tmod 4) = n % 4 := by
  have h := Int.tmod_eq_emod (a := n) (b := 4)
  split at h <;> split <;> omega
theorem tmod_bd (n : Int) : -4 < n.tmod 4 ∧ n.tmod 4 < 4 := by
  have h := Int.tmod_eq_emod (a := n) (b := 4)
  split at h <;> omega
section
variable {x y f g : Nat} (hx : Rep x f) (hy : Rep y g) (w : World)
include hx
end
end Go.Proofs.Ytndknkdfbjfjcaa
