/- Half planes bent to polygons: the square and the triangle of the examples. -/
import Derived.Test.YtcfkhhnkboealaaZi
namespace Go.Proofs.Ytcfkhhnkboealaa
open Go.RowKit
set_option linter.unusedVariables false
set_option linter.unusedSimpArgs false
set_option maxRecDepth 100000
set_option maxHeartbeats 4000000
def sqA4 : List Nat := [13830554455654793216, 0, 4607182418800017408, 4611686018427387904]
def sqG4 : List Nat := [4602678819172646912, 4602678819172646912, 4602678819172646912, 4602678819172646912]
def sqA3 : List Nat := [13830554455654793216, 0, 4607182418800017408]
def sqG3 : List Nat := [4602678819172646912, 4598175219545276416, 4598175219545276416]
theorem sqOk : okL sqA4 = true ∧ okL sqG4 = true ∧ okL sqA3 = true ∧ okL sqG3 = true := by decide +kernel
theorem sqGood4 : ∀ j, j < 4 → goodP sqA4 sqG4 j = true := by decide +kernel
theorem sqGood3 : ∀ j, j < 3 → goodP sqA3 sqG3 j = true := by decide +kernel
theorem sqEnd : polyEnd sqG4 4 = true ∧ polyEnd sqG3 3 = true := by decide +kernel
theorem sqH : stepH 0 0 4 = 0 ∧ stepH 0 0 3 = 0 ∧ stepH 4607182418800017408 4607182418800017408 3 = 0 ∧ stepH 13830554455654793216 0 4 = 4598175219545276416 ∧ stepH 0 4607182418800017408 4 = 4598175219545276416 ∧ stepH 4607182418800017408 4611686018427387904 4 = 4598175219545276416 := by decide +kernel
theorem sqNum0 : ∀ i, i < 4 → ∀ j, j < 4 → numP sqA4 sqG4 (fadd (midM 13830554455654793216 4598175219545276416 i) (fmul (ndT j) 4598175219545276416)) = true := by decide +kernel
theorem sqNum1 : ∀ i, i < 4 → ∀ j, j < 4 → numP sqA4 sqG4 (fadd (midM 0 4598175219545276416 i) (fmul (ndT j) 4598175219545276416)) = true := by decide +kernel
theorem sqNum2 : ∀ i, i < 4 → ∀ j, j < 4 → numP sqA4 sqG4 (fadd (midM 4607182418800017408 4598175219545276416 i) (fmul (ndT j) 4598175219545276416)) = true := by decide +kernel
theorem sqNumT : ∀ i, i < 3 → ∀ j, j < 4 → numP sqA3 sqG3 (fadd (midM 0 0 i) (fmul (ndT j) 0)) = true := by decide +kernel
theorem sqBad : numP sqA3 sqG3 13830554455654793216 = true ∧ (fin (slopeP sqA3 sqG3 13830554455654793216 (fabs 0) 2).1 && fin (slopeP sqA3 sqG3 13830554455654793216 (fabs 0) 2).2) = false := by decide +kernel
theorem sumC3 {F : Nat → Nat} {a b c d r : Nat} (h0 : F 0 = a) (h1 : F 1 = b) (h2 : F 2 = c) (h3 : F 3 = d) (h : fadd (fadd (fadd a b) c) d = r) : sumC F 3 = r := by
  rw [sumC, sumC, sumC, sumC, h0, h1, h2, h3]; exact h
theorem sumC2 {F : Nat → Nat} {a b c r : Nat} (h0 : F 0 = a) (h1 : F 1 = b) (h2 : F 2 = c) (h : fadd (fadd a b) c = r) : sumC F 2 = r := by
  rw [sumC, sumC, sumC, h0, h1, h2]; exact h
end Go.Proofs.Ytcfkhhnkboealaa
