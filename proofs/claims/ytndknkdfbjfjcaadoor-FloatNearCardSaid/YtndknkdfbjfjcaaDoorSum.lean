/- What the sum of floats in a slice comes to. No condition. -/
import Derived.Test.YtndknkdfbjfjcaaDoorMid3
namespace Go.Proofs.YtndknkdfbjfjcaaDoor
open Go.RowKit
set_option linter.unusedVariables false
set_option maxRecDepth 100000

def sumF : List Nat → Nat
  | [] => 0
  | f :: l => l.foldl fadd f
theorem sumF_take (fs : List Nat) (k : Nat) (hk : k + 1 < fs.length) : sumF (fs.take (k + 2)) = fadd (sumF (fs.take (k + 1))) (fs.getD (k + 1) 0) := by
  cases fs with
  | nil => simp at hk
  | cons f l =>
    simp only [List.take_succ_cons, sumF]
    have hk' : k < l.length := by simpa using hk
    rw [List.take_succ_eq_append_getElem hk', List.foldl_append]
    simp [List.getD, hk']
theorem sumF_one (fs : List Nat) (h : 0 < fs.length) : sumF (fs.take 1) = fs.getD 0 0 := by
  cases fs with
  | nil => simp at h
  | cons f l => rfl

end Go.Proofs.YtndknkdfbjfjcaaDoor
