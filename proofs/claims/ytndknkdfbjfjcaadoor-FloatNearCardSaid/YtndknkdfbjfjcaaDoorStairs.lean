/- The steps up and down of a float, plainly: the next bits. No condition. -/
import Derived.Test.YtndknkdfbjfjcaaDoorAliveA
namespace Go.Proofs.YtndknkdfbjfjcaaDoor
open Go.RowKit
set_option linter.unusedVariables false
set_option maxRecDepth 100000

theorem sval_max : sval 9218868437227405311 = ((mval 9218868437227405311 : Nat) : Int) := by
  unfold sval; rw [show sgn 9218868437227405311 = false by decide +kernel, show rung 9218868437227405311 = 9218868437227405311 by decide +kernel]; rfl
theorem sval_zero : sval 0 = 0 := by decide +kernel
theorem sval_zero_iff (f : Nat) : sval f = 0 ↔ rung f = 0 := by
  have h : mval (rung f) = 0 ↔ rung f = 0 := by
    constructor
    · intro h
      rcases Nat.eq_zero_or_pos (rung f) with h2 | h2
      · exact h2
      · have := mval_pos h2; omega
    · intro h; rw [h]; exact mval_zero
  rcases sval_cases f with ⟨_, e⟩ | ⟨_, e⟩ <;> rw [e] <;> omega
theorem feq_zero {f : Nat} (hn : isN f = false) : feq f 0 = decide (rung f = 0) := by
  rw [feq_eq, hn, show isN 0 = false by decide +kernel, sval_zero, Bool.eq_iff_iff]
  simp [sval_zero_iff]
theorem infP_iff {f : Nat} (hl : f < 18446744073709551616) (hn : isN f = false) : isInf f 1 = decide (f = 9218868437227405312) := by
  unfold isInf
  rw [if_neg (by decide), if_neg (by decide), flt_eq, isN_max, hn, sval_max, Bool.eq_iff_iff]
  simp only [Bool.not_false, Bool.true_and, decide_eq_true_eq]
  rw [notN_iff] at hn
  have hm := @mval_lt_iff 9218868437227405311 (rung f)
  rcases sval_cases f with ⟨h, e⟩ | ⟨h, e⟩ <;> rw [e]
  · have := sgn_false h hl
    omega
  · have := sgn_true h hl
    have := rung_lt f
    omega
theorem infN_iff {f : Nat} (hl : f < 18446744073709551616) (hn : isN f = false) : isInf f (-1) = decide (f = 18442240474082181120) := by
  unfold isInf
  rw [if_neg (by decide), if_pos (by decide), flt_eq, isN_max, isN_neg, hn, sval_max, sval_neg hl hn, Bool.eq_iff_iff]
  simp only [Bool.not_false, Bool.true_and, decide_eq_true_eq]
  rw [notN_iff] at hn
  have hm := @mval_lt_iff 9218868437227405311 (rung f)
  rcases sval_cases f with ⟨h, e⟩ | ⟨h, e⟩ <;> rw [e]
  · have := sgn_false h hl
    have := rung_lt f
    omega
  · have := sgn_true h hl
    omega
theorem sval_infP : sval 9218868437227405312 = ((mval 9218868437227405312 : Nat) : Int) := by
  unfold sval; rw [show sgn 9218868437227405312 = false by decide +kernel, show rung 9218868437227405312 = 9218868437227405312 by decide +kernel]; rfl
theorem sval_infN : sval 18442240474082181120 = -((mval 9218868437227405312 : Nat) : Int) := by
  unfold sval; rw [show sgn 18442240474082181120 = true by decide +kernel, show rung 18442240474082181120 = 9218868437227405312 by decide +kernel]; rfl
theorem mval_le_inf {f : Nat} (hn : isN f = false) : mval (rung f) ≤ mval 9218868437227405312 := mval_le_iff.2 ((notN_iff f).1 hn)
theorem sval_inj {f g : Nat} (hf : f < 18446744073709551616) (hg : g < 18446744073709551616) (h : sval f = sval g) (h0 : rung f ≠ 0) : f = g := by
  have hp : 0 < mval (rung f) := mval_pos (by omega)
  rcases sval_cases f with ⟨a, e⟩ | ⟨a, e⟩ <;> rcases sval_cases g with ⟨b, k⟩ | ⟨b, k⟩ <;> rw [e, k] at h
  · have := mval_inj (show mval (rung f) = mval (rung g) by omega)
    rw [sgn_false a hf, sgn_false b hg, this]
  · omega
  · omega
  · have := mval_inj (show mval (rung f) = mval (rung g) by omega)
    rw [sgn_true a hf, sgn_true b hg, this]

/-- THE STEP UP -/
theorem up_eq {f : Nat} (hl : f < 18446744073709551616) (hn : isN f = false) : upF f = if f = 9218868437227405312 then f else if rung f = 0 then 1 else if sgn f then f - 1 else f + 1 := by
  unfold upF
  rw [infP_iff hl hn]
  by_cases h1 : f = 9218868437227405312
  · simp [h1]
  · simp only [h1, decide_false, Bool.false_eq_true, if_false]
    unfold nextF infP
    have hi : isN 9218868437227405312 = false := by decide +kernel
    rw [hn, hi]
    have hne : feq f 9218868437227405312 = false := by
      rw [feq_eq, hn, hi]
      simp only [Bool.not_false, Bool.true_and, decide_eq_false_iff_not]
      intro h
      by_cases h0 : rung f = 0
      · rw [(sval_zero_iff f).2 h0, sval_infP] at h
        have : 0 < mval 9218868437227405312 := mval_pos (by decide)
        omega
      · exact h1 (sval_inj hl (by decide) h h0)
    rw [hne, feq_zero hn]
    have hlt : flt f 9218868437227405312 = true := by
      rw [flt_eq, hn, hi, sval_infP]
      have := mval_le_inf hn
      have hne2 : sval f ≠ sval 9218868437227405312 := by
        rw [feq_eq, hn, hi] at hne; simpa using hne
      rw [sval_infP] at hne2
      simp only [Bool.not_false, Bool.true_and, decide_eq_true_eq]
      rcases sval_cases f with ⟨_, e⟩ | ⟨_, e⟩ <;> rw [e] at hne2 ⊢ <;> omega
    rw [hlt]
    have h0 : isN 0 = false := by decide +kernel
    by_cases hz : rung f = 0
    · simp [hz, show sgn 9218868437227405312 = false by decide +kernel]
    · have hp : flt 0 f = !sgn f := by
        rw [flt_eq, hn, h0, sval_zero]
        have : 0 < mval (rung f) := mval_pos (by omega)
        rcases sval_cases f with ⟨a, e⟩ | ⟨a, e⟩ <;> rw [e, a] <;> simp <;> omega
      rw [hp]
      have hb := (notN_iff f).1 hn
      cases hs : sgn f
      · have := sgn_false hs hl
        have hk : isN (f + 1) = false := by rw [isN_false_iff]; omega
        simp [hz, nrm_of_not hk]
      · have := sgn_true hs hl
        have hk : isN (f - 1) = false := by rw [isN_false_iff]; omega
        simp [hz, nrm_of_not hk]
/-- THE STEP DOWN -/
theorem down_eq {f : Nat} (hl : f < 18446744073709551616) (hn : isN f = false) : downF f = if f = 18442240474082181120 then f else if rung f = 0 then 9223372036854775809 else if sgn f then f + 1 else f - 1 := by
  unfold downF
  rw [infN_iff hl hn]
  by_cases h1 : f = 18442240474082181120
  · simp [h1]
  · simp only [h1, decide_false, Bool.false_eq_true, if_false]
    unfold nextF infN
    have hi : isN 18442240474082181120 = false := by decide +kernel
    rw [hn, hi]
    have hne : feq f 18442240474082181120 = false := by
      rw [feq_eq, hn, hi]
      simp only [Bool.not_false, Bool.true_and, decide_eq_false_iff_not]
      intro h
      by_cases h0 : rung f = 0
      · rw [(sval_zero_iff f).2 h0, sval_infN] at h
        have : 0 < mval 9218868437227405312 := mval_pos (by decide)
        omega
      · exact h1 (sval_inj hl (by decide) h h0)
    rw [hne, feq_zero hn]
    have hlt : flt f 18442240474082181120 = false := by
      rw [flt_eq, hn, hi, sval_infN]
      have := mval_le_inf hn
      simp only [Bool.not_false, Bool.true_and, decide_eq_false_iff_not]
      rcases sval_cases f with ⟨_, e⟩ | ⟨_, e⟩ <;> rw [e] <;> omega
    rw [hlt]
    have h0 : isN 0 = false := by decide +kernel
    by_cases hz : rung f = 0
    · simp [hz, show sgn 18442240474082181120 = true by decide +kernel]
    · have hp : flt 0 f = !sgn f := by
        rw [flt_eq, hn, h0, sval_zero]
        have : 0 < mval (rung f) := mval_pos (by omega)
        rcases sval_cases f with ⟨a, e⟩ | ⟨a, e⟩ <;> rw [e, a] <;> simp <;> omega
      rw [hp]
      have hb := (notN_iff f).1 hn
      cases hs : sgn f
      · have := sgn_false hs hl
        have hk : isN (f - 1) = false := by rw [isN_false_iff]; omega
        simp [hz, nrm_of_not hk]
      · have := sgn_true hs hl
        have hne3 : rung f ≠ 9218868437227405312 := by omega
        have hk : isN (f + 1) = false := by rw [isN_false_iff]; omega
        simp [hz, nrm_of_not hk]
theorem up_nan {f : Nat} (hf : isN f = true) : isN (upF f) = true := by
  unfold upF
  split
  · exact hf
  · unfold nextF; rw [hf]; exact isN_nanB
theorem down_nan {f : Nat} (hf : isN f = true) : isN (downF f) = true := by
  unfold downF
  split
  · exact hf
  · unfold nextF; rw [hf]; exact isN_nanB
theorem up_ok {f : Nat} (hl : f < 18446744073709551616) (hn : isN f = false) : isN (upF f) = false ∧ upF f < 18446744073709551616 := by
  have hb := (notN_iff f).1 hn
  rw [up_eq hl hn]
  split
  · exact ⟨hn, hl⟩
  · split
    · decide +kernel
    · split
      · rename_i h; have := sgn_true h hl; exact ⟨by rw [isN_false_iff]; omega, by omega⟩
      · rename_i h; have := sgn_false (by simpa using h) hl; exact ⟨by rw [isN_false_iff]; omega, by omega⟩
theorem down_ok {f : Nat} (hl : f < 18446744073709551616) (hn : isN f = false) : isN (downF f) = false ∧ downF f < 18446744073709551616 := by
  have hb := (notN_iff f).1 hn
  rw [down_eq hl hn]
  split
  · exact ⟨hn, hl⟩
  · split
    · decide +kernel
    · split
      · rename_i h; have := sgn_true h hl; exact ⟨by rw [isN_false_iff]; omega, by omega⟩
      · rename_i h; have := sgn_false (by simpa using h) hl; exact ⟨by rw [isN_false_iff]; omega, by omega⟩
end Go.Proofs.YtndknkdfbjfjcaaDoor
