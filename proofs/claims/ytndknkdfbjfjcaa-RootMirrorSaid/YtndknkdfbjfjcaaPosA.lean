/- Bounds of the angle's core. -/
import Derived.Test.YtndknkdfbjfjcaaPos
import Derived.Test.YtndknkdfbjfjcaaAng6
namespace Go.Proofs.Ytndknkdfbjfjcaa
open Go.RowKit
set_option linter.unusedVariables false
set_option linter.unusedSimpArgs false
set_option maxRecDepth 100000

def seqK : Nat → Nat
  | 0 => 0
  | j + 1 => fdiv 4607182418800017408 (ofInt (2 * (24 - (j : Int)) + 1))
def cZ : Nat := fmul 4601136786660235254 4601136786660235254
theorem seqK_ok : ∀ j : Nat, j < 26 → seqK j < 9218868437227405312 := by decide +kernel
theorem seqK_step : ∀ j : Nat, j < 25 → fmul cZ (seqK j) ≤ seqK (j + 1) := by decide +kernel
theorem cZ_ok : cZ < 9218868437227405312 := by decide +kernel
theorem seq_le {z : Nat} (hz : z ≤ cZ) : ∀ j : Nat, j < 26 → coreSeq z j ≤ seqK j
  | 0, _ => Nat.le_refl _
  | j + 1, h => by
    have h1 := seq_le hz j (by omega)
    have h2 := Nat.le_trans (mulP hz h1 cZ_ok (seqK_ok j (by omega))) (seqK_step j (by omega))
    exact subP (f := seqK (j + 1)) (seqK_ok (j + 1) h) h2
def cW : Nat := fadd 4601136786660235254 (fdiv 4368955796522032135 4616189618054758400)
def cC : Nat := fadd (fdiv 4614256656552045848 4616189618054758400) cW
theorem k_step : seqK 25 = 4607182418800017408 := by decide +kernel
theorem closed1 : fmul 4601136786660235254 4607182418800017408 = 4601136786660235254 ∧ 4601136786660235254 ≤ cC ∧ cW < fdiv 4614256656552045848 4616189618054758400 ∧ fdiv 4614256656552045848 4616189618054758400 < 9218868437227405312 ∧ fdiv 4368955796522032135 4616189618054758400 < 9218868437227405312 := by decide +kernel
theorem core_of {u : Nat} (hu : rung u ≤ 4601136786660235254) : coreSeq (fmul u u) 25 ≤ 4607182418800017408 ∧ fmul u (coreSeq (fmul u u) 25) = wd (sgn u) (rung (fmul u (coreSeq (fmul u u) 25))) ∧ rung (fmul u (coreSeq (fmul u u) 25)) ≤ 4601136786660235254 := by
  obtain ⟨a, b⟩ := rungMul hu hu (by decide) (by decide)
  have hz : fmul u u ≤ cZ := by
    rw [Bool.xor_self, wdF] at a
    rw [a]; exact b
  have h := seq_le hz 25 (by decide)
  rw [k_step] at h
  generalize coreSeq (fmul u u) 25 = s at *
  have hs : rung s ≤ 4607182418800017408 := by rw [p_rung (by omega)]; exact h
  obtain ⟨c, d⟩ := rungMul hu hs (by decide) (by decide)
  rw [p_sgn (f := s) (by omega), Bool.xor_false] at c
  refine ⟨h, c, ?_⟩
  rw [closed1.1] at d
  exact d
theorem far_le {t : Nat} (ht : t < 9218868437227405312) : farF t = decide (4601130706800738304 < t) := by
  unfold farF
  rw [flt_eq, fin_notN (p_fin ht), show isN 4601130706800738304 = false by decide +kernel, p_sval ht, p_sval (f := 4601130706800738304) (by decide), Bool.eq_iff_iff]
  simp only [Bool.not_false, Bool.true_and, decide_eq_true_eq]
  rw [← mval_lt_iff]
  omega
def cD : Nat := fsub 4607182418800017408 4601130706800738304
def cB : Nat := fadd 4601130706800738304 4607182418800017408
theorem closed2 : cD < 9218868437227405312 ∧ cB < 9218868437227405312 ∧ 0 < cB ∧ mval cD * U * 1048577 ≤ mval 4601136786660235254 * mval cB * 1048576 ∧ fadd 4607182435979886592 4607182418800017408 < 9218868437227405312 ∧ mval 4607182435979886592 - mval 4607182418800017408 ≤ mval 4607182418800017408 - mval 4601130706800738304 := by decide +kernel
theorem far_u {t : Nat} (h0 : 4601130706800738304 < t) (h1 : t ≤ 4607182435979886592) : rung (fdiv (fsub t 4607182418800017408) (fadd t 4607182418800017408)) ≤ 4601136786660235254 := by
  obtain ⟨d1, d2, d3, d4, d5, d6⟩ := closed2
  have hd : rung (fsub t 4607182418800017408) ≤ cD := by
    unfold cD
    rw [fsub_fin (p_fin (by omega)) (p_fin (by decide)) (by decide), wd_rung (rndN_le _), p_sval (f := t) (by omega), p_sval (f := 4607182418800017408) (by decide), p_sub (by decide) (by decide)]
    have a1 := mval_lt_iff.2 h0
    have a2 := mval_le_iff.2 h1
    apply rndN_mono
    generalize mval 4607182418800017408 = O at *
    generalize mval 4601130706800738304 = P at *
    generalize mval 4607182435979886592 = Q at *
    omega
  have hb : cB ≤ fadd t 4607182418800017408 := addP (Nat.le_of_lt h0) (Nat.le_refl _) (by omega) (by decide)
  have hb2 : fadd t 4607182418800017408 ≤ fadd 4607182435979886592 4607182418800017408 := addP h1 (Nat.le_refl _) (by decide) (by decide)
  generalize fsub t 4607182418800017408 = D at *
  generalize fadd t 4607182418800017408 = B at *
  have hB : B < 9218868437227405312 := by omega
  have hf : Proofs.Ytndknkdfbjfjcaa.fin D = true := by unfold Proofs.Ytndknkdfbjfjcaa.fin; simp; omega
  obtain ⟨r, e, hr⟩ := fdiv_le (c := 4601136786660235254) hf (p_fin hB) (by rw [p_rung hB]; omega) (by decide) (by
    rw [p_rung hB]
    have m1 := mval_le_iff.2 hd
    have m2 := mval_le_iff.2 hb
    refine Nat.le_trans (Nat.mul_le_mul_right _ (Nat.mul_le_mul_right _ m1)) (Nat.le_trans d4 ?_)
    exact Nat.mul_le_mul_right _ (Nat.mul_le_mul_left _ m2))
  rw [e, wd_rung (by omega)]
  exact hr
/-- THE CORE has no sign -/
theorem core_pos {t : Nat} (ht : t ≤ 4607182435979886592) : coreF t ≤ cC := by
  have hf := far_le (t := t) (by omega)
  unfold coreF coreV coreU
  rw [hf]
  by_cases h : 4601130706800738304 < t
  · rw [decide_eq_true h, if_pos rfl, if_pos rfl]
    obtain ⟨_, _, c⟩ := core_of (far_u h ht)
    obtain ⟨_, _, c3, c4, c5⟩ := closed1
    exact addAbs c4 c3 (rungAdd c (Nat.le_refl _) (by decide) c5)
  · rw [decide_eq_false h, if_neg (by simp), if_neg (by simp)]
    have hr : rung t ≤ 4601136786660235254 := by rw [p_rung (by omega)]; omega
    obtain ⟨_, b, c⟩ := core_of hr
    rw [p_sgn (f := t) (by omega), wdF] at b
    rw [b]
    exact Nat.le_trans c closed1.2.1
end Go.Proofs.Ytndknkdfbjfjcaa
