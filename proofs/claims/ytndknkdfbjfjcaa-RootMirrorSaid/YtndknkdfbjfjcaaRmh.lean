/- The length as a function of the greater and the lesser part: between them and their sum. Plain. -/
import Derived.Test.YtndknkdfbjfjcaaRmg
import Derived.Test.YtndknkdfbjfjcaaMirC
import Derived.Test.YtndknkdfbjfjcaaPos
namespace Go.Proofs.Ytndknkdfbjfjcaa
set_option linter.unusedVariables false
set_option linter.unusedSimpArgs false
set_option maxRecDepth 100000
theorem fabs_ok6 {f : Nat} (h : Ok f) : Ok (fabs f) := by
  cases hn : isN f
  · refine ⟨by rw [fabs_of hn]; have := rung_lt f; omega, nrm_of_not (by rw [isN_abs, hn])⟩
  · rw [h.nan hn]; exact ⟨by decide +kernel, by decide +kernel⟩
theorem fabs_cases6 {f : Nat} (h : Ok f) : fabs f = f ∨ fabs f = fneg f := by
  cases hn : isN f
  · rw [fabs_of hn, fneg_of h.lt hn]
    cases hs : sgn f
    · left; exact (sgn_false hs h.lt).symm
    · right; simp
  · left; rw [h.nan hn]; decide +kernel
theorem sq_abs6 {f : Nat} (h : Ok f) (k : Int) : fmul (scN (fabs f) k) (scN (fabs f) k) = fmul (scN f k) (scN f k) := by
  rcases fabs_cases6 h with e | e
  · rw [e]
  · rw [e, scN_neg h, fmul_neg2 _ _ (scN_ok h k).lt (scN_ok h k).lt]
def lesF (f g : Nat) : Nat := if flt (fabs f) (fabs g) then fabs f else fabs g
theorem sq_great6 {f g : Nat} (hf : Ok f) (hg : Ok g) (k : Int) : sqF (scN (greatF f g) k) (scN (lesF f g) k) = sqF (scN f k) (scN g k) := by
  unfold sqF greatF lesF
  cases flt (fabs f) (fabs g)
  · simp only [Bool.false_eq_true, if_false]
    rw [sq_abs6 hf, sq_abs6 hg]
  · simp only [if_true]
    rw [sq_abs6 hf, sq_abs6 hg, fadd_comm]
theorem p_isN {r : Nat} (h : r ≤ 9218868437227405312) : isN r = false := by
  have := wd_notN (s := false) h; rwa [wd_f0] at this
theorem p_rung' {r : Nat} (h : r ≤ 9218868437227405312) : rung r = r := by
  have := wd_rung (s := false) h; rwa [wd_f0] at this
theorem p_sval' {r : Nat} (h : r ≤ 9218868437227405312) : sval r = (mval r : Int) := by
  have := wd_sval (s := false) h; rwa [wd_f0, if_neg (by decide)] at this
theorem p_flt {r s : Nat} (h : r ≤ 9218868437227405312) (k : s ≤ 9218868437227405312) : flt r s = decide (r < s) := by
  rw [flt_eq, p_isN h, p_isN k, p_sval' h, p_sval' k]
  simp [mval_lt_iff]
theorem p_fle {r s : Nat} (h : r ≤ 9218868437227405312) (k : s ≤ 9218868437227405312) : fle r s = decide (r ≤ s) := by
  rw [fle_eq, p_isN h, p_isN k, p_sval' h, p_sval' k]
  simp [mval_le_iff]
theorem rung_le' {f : Nat} (h : isN f = false) : rung f ≤ 9218868437227405312 := (notN_iff f).1 h
theorem great_max {f g : Nat} (hf : isN f = false) (hg : isN g = false) : greatF f g = max (rung f) (rung g) ∧ lesF f g = min (rung f) (rung g) := by
  unfold greatF lesF
  rw [fabs_of hf, fabs_of hg, p_flt (rung_le' hf) (rung_le' hg)]
  by_cases h : rung f < rung g
  · rw [decide_eq_true h, if_pos rfl, if_pos rfl]; omega
  · rw [decide_eq_false h, if_neg (by decide), if_neg (by decide)]; omega
theorem clamp_in {K : Int} (h1 : -2000 ≤ K) (h2 : K ≤ 2000) : clampN K = K := by
  unfold clampN
  rw [if_pos (show K < 5000 by omega), if_pos (show -5000 < K by omega)]
theorem scale_p {p : Nat} (hp : p < 9218868437227405312) (n : Int) : scaleF p n = rndE (mval p) n := by
  by_cases h : p = 0
  · rw [h, scale_nought (by decide +kernel) (by decide +kernel), mval_zero, rndE_zero]
  · have hr : rung p = p := p_rung' (by omega)
    have hf : fin p = true := by unfold fin; rw [hr]; simpa using hp
    rw [scale_val (by omega) hf (by rw [hr]; exact h), hr]
    have hs : sgn p = false := by have := wd_sgn (s := false) (Nat.le_of_lt hp); rwa [wd_f0] at this
    rw [hs, wd_f0]
theorem mul1074 {a b : Nat} (h : a < 9218868437227405312) (k : b < 9218868437227405312) : fmul a b = rndQ (mval a * mval b) e1 := by
  rw [p_mul h k, e1_eq]
/-- THE LENGTH of finite parts that are not both nought. -/
theorem lenF_fin {f g : Nat} (hf : Ok f) (hg : Ok g) (hff : fin f = true) (hgf : fin g = true) {p y : Nat} (hp : p = max (rung f) (rung g)) (hy : y = min (rung f) (rung g)) (h0 : 0 < p) :
    lenF f g = rndE (mval (fsqrt (rndN (mval (rndQ (mval (rndE (mval p) (-(partE p))) * mval (rndE (mval p) (-(partE p)))) e1) + mval (rndQ (mval (rndE (mval y) (-(partE p))) * mval (rndE (mval y) (-(partE p)))) e1))))) (partE p) := by
  have nf := fin_notN hff
  have ng := fin_notN hgf
  have hfr := fin_rung hff
  have hgr := fin_rung hgf
  obtain ⟨g1, g2⟩ := great_max nf ng
  have hpi : p < 9218868437227405312 := by omega
  have hyp : y ≤ p := by omega
  have hpb := partE_bd p
  unfold lenF
  rw [isInf0 nf, isInf0 ng, hff, hgf, nf, ng, g1, ← hp, feq_zero (p_isN (by omega)), p_rung' (by omega)]
  rw [if_neg (by decide), if_neg (by decide), if_neg (by simp; omega)]
  have hk : lenK f g = partE p := by unfold lenK; rw [g1, ← hp]
  rw [hk, ← sq_great6 hf hg, g1, g2, ← hp, ← hy, clamp_in hpb.1 hpb.2]
  unfold sqF scN
  rw [clamp_in (by omega) (by omega), scale_p hpi, scale_p (show y < 9218868437227405312 by omega)]
  obtain ⟨M, hM1, hM2, hu, hx, _, _⟩ := scaled_great h0 hpi
  have hu2 := zz_place hM1 hM2
  have hv : rndE (mval y) (-(partE p)) ≤ 1021 * 4503599627370496 + M := by rw [← hu]; exact rndE_mono _ (mval_le_iff.2 hyp)
  obtain ⟨v, hv'⟩ : ∃ v, rndE (mval y) (-(partE p)) = v := ⟨_, rfl⟩
  rw [hv'] at hv ⊢
  rw [hu]
  rw [mul1074 (by omega) (by omega), mul1074 (by omega) (by omega), hu2]
  obtain ⟨a, ha⟩ : ∃ a, rndQ (M * zz * (M * zz)) e1 = a := ⟨_, rfl⟩
  obtain ⟨b, hb⟩ : ∃ b, rndQ (mval v * mval v) e1 = b := ⟨_, rfl⟩
  have b1 : b ≤ a := by
    rw [← hb, ← ha, ← hu2]
    exact rndQ_mono (sq_le (mval_le_iff.2 hv))
  obtain ⟨a1, a2, a3⟩ := sq_fact hM1 hM2 ha
  obtain ⟨s1, s2, s3⟩ := sum_root hM1 hM2 ha b1
  rw [ha, hb, p_add (by omega) (by omega)]
  rw [scale_p (sqrt_fin (by omega) (by omega))]
theorem len_nought {f g : Nat} (hf : isN f = false) (hg : isN g = false) (h1 : rung f = 0) (h2 : rung g = 0) : lenF f g = 0 := by
  have ff : fin f = true := by unfold fin; rw [h1]; decide
  have gf : fin g = true := by unfold fin; rw [h2]; decide
  obtain ⟨g1, g2⟩ := great_max hf hg
  unfold lenF
  rw [isInf0 hf, isInf0 hg, ff, gf, hf, hg, g1, h1, h2]
  rw [if_neg (by decide), if_neg (by decide), if_pos (by decide +kernel)]
theorem len_inf {f g : Nat} (h : (isInf f 0 || isInf g 0) = true) : lenF f g = infP := by
  unfold lenF; rw [h, if_pos rfl]
/-- BOTH BOUNDS, of numbers of any greatness. -/
theorem len_bounds {f g : Nat} (hf : Ok f) (hg : Ok g) (nf : isN f = false) (ng : isN g = false) :
    max (rung f) (rung g) ≤ lenF f g ∧ lenF f g ≤ fadd (rung f) (rung g) ∧ fadd (rung f) (rung g) ≤ 9218868437227405312 := by
  have hfr := rung_le' nf
  have hgr := rung_le' ng
  have e : infP = 9218868437227405312 := rfl
  by_cases h1 : rung f = 9218868437227405312
  · have hf1 : fin f = false := by unfold fin; rw [h1]; decide
    rw [len_inf (by rw [isInf0 nf, hf1]; rfl), e]
    have : fadd (rung f) (rung g) = 9218868437227405312 := by
      rw [h1]
      by_cases h2 : rung g = 9218868437227405312
      · rw [h2]; decide +kernel
      · rw [fadd_infl (by decide +kernel) (by unfold fin; rw [p_rung' hgr]; simp; omega)]; decide +kernel
    rw [this]; omega
  · by_cases h2 : rung g = 9218868437227405312
    · have hg1 : fin g = false := by unfold fin; rw [h2]; decide
      rw [len_inf (by rw [isInf0 ng, hg1]; simp), e]
      have : fadd (rung f) (rung g) = 9218868437227405312 := by
        rw [h2, fadd_infr (by unfold fin; rw [p_rung' hfr]; simp; omega) (by decide +kernel)]; decide +kernel
      rw [this]; omega
    · have ff : fin f = true := by unfold fin; simp; omega
      have gf : fin g = true := by unfold fin; simp; omega
      rw [p_add (show rung f < 9218868437227405312 by omega) (show rung g < 9218868437227405312 by omega)]
      by_cases h0 : max (rung f) (rung g) = 0
      · rw [len_nought nf ng (by omega) (by omega), show rung f = 0 by omega, show rung g = 0 by omega]; decide +kernel
      · obtain ⟨p, hp⟩ : ∃ p, p = max (rung f) (rung g) := ⟨_, rfl⟩
        obtain ⟨y, hy⟩ : ∃ y, y = min (rung f) (rung g) := ⟨_, rfl⟩
        rw [lenF_fin hf hg ff gf hp hy (by omega), ← hp]
        have hs : mval (rung f) + mval (rung g) = mval p + mval y := by
          by_cases h : rung f ≤ rung g
          · rw [show p = rung g by omega, show y = rung f by omega, Nat.add_comm]
          · rw [show p = rung f by omega, show y = rung g by omega]
        rw [hs]
        obtain ⟨q1, q2⟩ := len_between (p := p) (y := y) (by omega) (by omega) (by omega)
        exact ⟨q1, q2, rndQ_le _ _⟩
end Go.Proofs.Ytndknkdfbjfjcaa
