/- The logarithm of one and a float: the program's and the document's come to one. No condition. -/
import Derived.Test.YtndknkdfbjfjcaaLog2
namespace Go.Proofs.Ytndknkdfbjfjcaa
open Go.RowKit
set_option linter.unusedVariables false
set_option linter.unusedSimpArgs false
set_option maxRecDepth 100000

theorem sval_m1 : sval 13830554455654793216 = -((mval 4607182418800017408 : Nat) : Int) := by
  unfold sval; rw [show sgn 13830554455654793216 = true by decide +kernel, show rung 13830554455654793216 = 4607182418800017408 by decide +kernel]; rfl
theorem sval_1 : sval 4607182418800017408 = ((mval 4607182418800017408 : Nat) : Int) := by
  unfold sval; rw [show sgn 4607182418800017408 = false by decide +kernel, show rung 4607182418800017408 = 4607182418800017408 by decide +kernel]; rfl
theorem logF_neg {x : Nat} (h1 : isN x = false) (h : sval x < 0) : logF x = nanB := by
  have h2 : isInf x 1 = false := by
    rw [isInf_one, flt_eq, isN_max, h1, sval_max]
    generalize mval 9218868437227405311 = M
    simp; omega
  have h3 : flt x 0 = true := by rw [flt_eq, h1, show isN 0 = false by decide +kernel, sval_zero]; simp; exact h
  unfold logF
  rw [if_neg (by rw [h1, h2]; simp), if_pos h3]
theorem logF_nan : logF nanB = nanB := by unfold logF; rw [if_pos (by rw [isN_nanB]; rfl)]
theorem more_neg {x : Nat} (hl : x < 18446744073709551616) (h : flt x 13830554455654793216 = true) : logF (fadd 4607182418800017408 x) = nanB := by
  rw [flt_eq, show isN 13830554455654793216 = false by decide +kernel, sval_m1] at h
  cases hn : isN x
  · rw [hn] at h
    simp only [Bool.not_false, Bool.true_and, decide_eq_true_eq] at h
    cases hf : fin x
    · have hi := inf_of hn hf
      have hs : sgn x = true := by
        rcases sval_cases x with ⟨a, e⟩ | ⟨a, e⟩
        · rw [e] at h; generalize mval 4607182418800017408 = M at h; omega
        · exact a
      rw [fadd_infr (by decide +kernel) hi, hs]
      exact logF_neg (wd_notN (by omega)) (by rw [wd_sval (by omega)]; have := mval_pos (show 0 < 9218868437227405312 by decide); simp; generalize mval 9218868437227405312 = M at *; omega)
    · rw [fadd_fin (by decide +kernel) hf, sval_1]
      have hneg : ((mval 4607182418800017408 : Nat) : Int) + sval x < 0 := by generalize mval 4607182418800017408 = M at *; omega
      generalize ((mval 4607182418800017408 : Nat) : Int) + sval x = S at hneg
      rw [if_neg (by omega), decide_eq_true hneg]
      refine logF_neg (wd_notN (rndN_le _)) ?_
      rw [wd_sval (rndN_le _)]
      have h2 : rndN S.natAbs ≠ 0 := rnd_pos (by omega)
      have h3 := mval_pos (show 0 < rndN S.natAbs by omega)
      generalize mval (rndN S.natAbs) = M at *
      simp; omega
  · rw [fadd_nan (.inr hn)]; exact logF_nan
theorem more_one {x : Nat} (hl : x < 18446744073709551616) (h : feq x 13830554455654793216 = true) : x = 13830554455654793216 := by
  rw [feq_eq, show isN 13830554455654793216 = false by decide +kernel] at h
  simp at h
  exact (sval_inj (by decide) hl h.2.symm (by decide +kernel)).symm
theorem inf_is {x : Nat} (hl : x < 18446744073709551616) (hn : isN x = false) (h : isInf x 1 = true) : x = 9218868437227405312 := by
  rw [infP_iff hl hn] at h; simpa using h
def refMoreF (x : Nat) : Nat :=
  if isN x || flt x 13830554455654793216 then nanB else if feq x 13830554455654793216 then infN else if isInf x 1 then x else moreF x
theorem refMore_eq {x : Nat} (hl : x < 18446744073709551616) : refMoreF x = moreF x := by
  unfold refMoreF
  cases hn : isN x
  · cases h1 : flt x 13830554455654793216
    · rw [if_neg (by simp)]
      cases h2 : feq x 13830554455654793216
      · rw [if_neg (by simp)]
        cases h3 : isInf x 1
        · rw [if_neg (by simp)]
        · rw [if_pos rfl, inf_is hl hn h3]; decide +kernel
      · rw [if_pos rfl, more_one hl h2]; decide +kernel
    · rw [if_pos (by simp)]
      unfold moreF
      have h2 : fle 13821547256400052224 x = false := by
        rw [flt_eq, hn, show isN 13830554455654793216 = false by decide +kernel] at h1
        simp at h1
        rw [fle_eq, hn, show isN 13821547256400052224 = false by decide +kernel]
        have : sval 13830554455654793216 < sval 13821547256400052224 := lt_neg (r := 4598175219545276416) (s := 4607182418800017408) (by decide) (by decide)
        simp; omega
      rw [h2, if_neg (by simp), more_neg hl h1]
  · rw [if_pos (by simp)]
    unfold moreF
    rw [(flt_nan0 hn _).2.2.2.2, if_neg (by simp), fadd_nan (.inr hn), logF_nan]
section
variable {x y f g : Nat} (hx : Rep x f) (hy : Rep y g) (w : World)
theorem Rep.cq1 : Rep 13821547256400052224 13821547256400052224 := Rep.self (by decide) (by decide +kernel)
theorem Rep.cq2 : Rep 4600427019358961664 4600427019358961664 := Rep.self (by decide) (by decide +kernel)
include hx
end
end Go.Proofs.Ytndknkdfbjfjcaa
