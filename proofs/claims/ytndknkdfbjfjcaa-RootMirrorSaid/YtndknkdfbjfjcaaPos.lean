/- Angles of places have no sign before the last step. No condition. -/
import Derived.Test.YtndknkdfbjfjcaaDiv
namespace Go.Proofs.Ytndknkdfbjfjcaa
open Go.RowKit
set_option linter.unusedVariables false
set_option linter.unusedSimpArgs false
set_option maxRecDepth 100000
set_option maxHeartbeats 400000

section
variable {f g F G A W x : Nat}
theorem p_rung (h : f < 9218868437227405312) : rung f = f := by unfold rung; omega
theorem p_sgn (h : f < 9218868437227405312) : sgn f = false := by unfold sgn; simp; omega
theorem p_fin (h : f < 9218868437227405312) : Proofs.Ytndknkdfbjfjcaa.fin f = true := by unfold Proofs.Ytndknkdfbjfjcaa.fin; rw [p_rung h]; simpa using h
theorem p_sval (h : f < 9218868437227405312) : sval f = (mval f : Int) := by unfold sval; rw [p_sgn h, p_rung h]; rfl
theorem wdF (r : Nat) : wd false r = r := rfl
theorem sgn_add (a b : Nat) (s : Bool) : (if (a : Int) + (b : Int) = 0 then false && s else decide ((a : Int) + (b : Int) < 0)) = false := by
  split
  · rw [Bool.false_and]
  · exact decide_eq_false (by omega)
theorem sgn_sub (a b : Nat) (s : Bool) (h : b ≤ a) : (if (a : Int) - (b : Int) = 0 then false && s else decide ((a : Int) - (b : Int) < 0)) = false := by
  split
  · rw [Bool.false_and]
  · exact decide_eq_false (by omega)
theorem abs_add (a b : Nat) : ((a : Int) + (b : Int)).natAbs = a + b := by omega
theorem abs_sub (a b : Nat) (h : b ≤ a) : ((a : Int) - (b : Int)).natAbs = a - b := by omega
theorem p_add (h : f < 9218868437227405312) (k : g < 9218868437227405312) : fadd f g = rndN (mval f + mval g) := by
  rw [fadd_fin (p_fin h) (p_fin k), p_sval h, p_sval k, p_sgn h, abs_add, sgn_add, wdF]
theorem p_mul (h : f < 9218868437227405312) (k : g < 9218868437227405312) : fmul f g = rndQ (mval f * mval g) 1074 := by
  rw [fmul_fin (p_fin h) (p_fin k), p_sgn h, p_sgn k, p_rung h, p_rung k, Bool.xor_false, wdF]
theorem p_sub (h : f < 9218868437227405312) (hg : g ≤ f) : fsub f g = rndN (mval f - mval g) := by
  have k : g < 9218868437227405312 := by omega
  have m := mval_le_iff.2 hg
  rw [fsub_fin (p_fin h) (p_fin k) (by omega), p_sval h, p_sval k, p_sgn h, abs_sub _ _ m, sgn_sub _ _ _ m, wdF]
theorem mulP (h : f ≤ F) (k : g ≤ G) (hF : F < 9218868437227405312) (hG : G < 9218868437227405312) : fmul f g ≤ fmul F G := by
  rw [p_mul (by omega) (by omega), p_mul hF hG]
  exact rndQ_mono (Nat.mul_le_mul (mval_le_iff.2 h) (mval_le_iff.2 k))
theorem addP (h : f ≤ F) (k : g ≤ G) (hF : F < 9218868437227405312) (hG : G < 9218868437227405312) : fadd f g ≤ fadd F G := by
  rw [p_add (by omega) (by omega), p_add hF hG]
  exact rndN_mono (Nat.add_le_add (mval_le_iff.2 h) (mval_le_iff.2 k))
theorem subP (hf : f < 9218868437227405312) (hg : g ≤ f) : fsub f g ≤ f := by
  rw [p_sub hf hg]
  exact rndN_le_of hf (Nat.sub_le _ _)
theorem sval_abs_le (h : rung x ≤ W) : (sval x).natAbs ≤ mval W := by
  have := mval_le_iff.2 h
  rcases sval_cases x with ⟨_, e⟩ | ⟨_, e⟩ <;> rw [e] <;> omega
theorem addAbs (hA : A < 9218868437227405312) (hW : W < A) (hx : rung x ≤ W) : fadd A x ≤ fadd A W := by
  have hf : Proofs.Ytndknkdfbjfjcaa.fin x = true := by unfold Proofs.Ytndknkdfbjfjcaa.fin; simp; omega
  have a := sval_abs_le hx
  have b := mval_lt_iff.2 hW
  rw [fadd_fin (p_fin hA) hf, p_sval hA, p_add hA (by omega), p_sgn hA]
  have e : (if (mval A : Int) + sval x = 0 then false && sgn x else decide ((mval A : Int) + sval x < 0)) = false := by
    split
    · rw [Bool.false_and]
    · exact decide_eq_false (by omega)
  rw [e, wdF]
  exact rndN_mono (by omega)
theorem subAbs (hA : A < 9218868437227405312) (hW : W < A) (hl : x < 18446744073709551616) (hx : rung x ≤ W) : fsub A x ≤ fadd A W := by
  have hf : Proofs.Ytndknkdfbjfjcaa.fin x = true := by unfold Proofs.Ytndknkdfbjfjcaa.fin; simp; omega
  have a := sval_abs_le hx
  have b := mval_lt_iff.2 hW
  rw [fsub_fin (p_fin hA) hf hl, p_sval hA, p_add hA (by omega), p_sgn hA]
  have e : (if (mval A : Int) - sval x = 0 then false && !sgn x else decide ((mval A : Int) - sval x < 0)) = false := by
    split
    · rw [Bool.false_and]
    · exact decide_eq_false (by omega)
  rw [e, wdF]
  exact rndN_mono (by omega)
theorem rungSub (h : f ≤ F) (k : g ≤ G) (hF : F < 9218868437227405312) (hG : G < 9218868437227405312) : rung (fsub f g) ≤ fadd F G ∧ fsub f g < 18446744073709551616 := by
  have h1 := mval_le_iff.2 h
  have h2 := mval_le_iff.2 k
  rw [fsub_fin (p_fin (by omega)) (p_fin (by omega)) (by omega), wd_rung (rndN_le _), p_sval (by omega), p_sval (by omega), p_add hF hG]
  exact ⟨rndN_mono (by omega), wd_lt (rndN_le _)⟩
theorem rungAdd (h : rung x ≤ F) (k : g ≤ G) (hF : F < 9218868437227405312) (hG : G < 9218868437227405312) : rung (fadd x g) ≤ fadd F G := by
  have h2 := mval_le_iff.2 k
  have a := sval_abs_le h
  have hf : Proofs.Ytndknkdfbjfjcaa.fin x = true := by unfold Proofs.Ytndknkdfbjfjcaa.fin; simp; omega
  rw [fadd_fin hf (p_fin (by omega)), wd_rung (rndN_le _), p_sval (f := g) (by omega), p_add hF hG]
  exact rndN_mono (by omega)
theorem rungMul {y : Nat} (h : rung x ≤ F) (k : rung y ≤ G) (hF : F < 9218868437227405312) (hG : G < 9218868437227405312) : fmul x y = wd (sgn x ^^ sgn y) (rung (fmul x y)) ∧ rung (fmul x y) ≤ fmul F G := by
  have hf : Proofs.Ytndknkdfbjfjcaa.fin x = true := by unfold Proofs.Ytndknkdfbjfjcaa.fin; simp; omega
  have hg : Proofs.Ytndknkdfbjfjcaa.fin y = true := by unfold Proofs.Ytndknkdfbjfjcaa.fin; simp; omega
  rw [fmul_fin hf hg, wd_rung (rndQ_le _ _), p_mul hF hG]
  exact ⟨rfl, rndQ_mono (Nat.mul_le_mul (mval_le_iff.2 h) (mval_le_iff.2 k))⟩
end
end Go.Proofs.Ytndknkdfbjfjcaa
