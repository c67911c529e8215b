/- The statement of logarithms, way by way, by value. No text of the program. -/
import Derived.Test.YtcfkhhnkboealaaDoorLi
namespace Go.Proofs.YtcfkhhnkboealaaDoor
open Go.RowKit
set_option linter.unusedVariables false
set_option linter.unusedSimpArgs false
set_option maxRecDepth 100000
set_option maxHeartbeats 4000000
open Turns Sizes
theorem sval_vals {f g : Nat} {a b : Rat} (hf : V f a) (hg : V g b) : (a ≤ b → sval f ≤ sval g) ∧ (a < b → sval f < sval g) := by
  have e1 := hf.val
  have e2 := hg.val
  unfold qv at e1 e2
  have hU := UQ_pos
  have d1 := div_self_mul (sval f : Rat) UQ_ne
  have d2 := div_self_mul (sval g : Rat) UQ_ne
  rw [e1] at d1
  rw [e2] at d2
  constructor
  · intro h
    have m := Rat.mul_le_mul_of_nonneg_right h (Rat.le_of_lt hU)
    rw [d1, d2] at m
    exact cast_le'.1 m
  · intro h
    rcases Int.lt_or_le (sval f) (sval g) with q | q
    · exact q
    · exfalso
      have m := cast_le'.2 q
      rw [← d1, ← d2] at m
      have := Rat.le_of_mul_le_mul_right m hU
      grind
theorem fle_vals {f g : Nat} {a b : Rat} (hf : V f a) (hg : V g b) (h : a ≤ b) : fle f g = true := by
  rw [fle_eq, fin_notN hf.fin, fin_notN hg.fin]
  simpa using (sval_vals hf hg).1 h
theorem flt_vals {f g : Nat} {a b : Rat} (hf : V f a) (hg : V g b) (h : a < b) : flt f g = true := by
  rw [flt_eq, fin_notN hf.fin, fin_notN hg.fin]
  simpa using (sval_vals hf hg).2 h
theorem abs_small {f : Nat} {a : Rat} (hf : V f a) (h : ab a ≤ 900) : flt (rung f) 4652007308841189376 = true := by
  have hv := vnum (w := 4652007308841189376) (k := 1000) (by decide) (by decide +kernel)
  have e : ((1000 : Nat) : Rat) = 1000 := by decide +kernel
  rw [e] at hv
  exact flt_vals hf.absv hv (by grind)
theorem sub_one_two {f : Nat} {a : Rat} (hf : V f a) : True := trivial
/-- tiny ones: the law's comparison. -/
theorem tiny_cmp {f : Nat} {a : Rat} (hf : V f a) (ha : ab a ≤ pw (-200)) : isN (moreF f) = false ∧ moreF f < 18446744073709551616 ∧ fle (fabs (fsub (moreF f) f)) (fmul 4611686018427387904 (fsub (nextF (rung f) 4607182418800017408) (rung f))) = true := by
  obtain ⟨m, hm, r⟩ := more_tiny hf ha
  have huu : 0 < uu ∧ uu ≤ 1 / 1000000 := by decide +kernel
  have hB := BG_big
  refine ⟨fin_notN hm.fin, hm.lt, ?_⟩
  have hr := fin_rung hf.fin
  have hone : rung f < 4607182418800017408 := by
    rcases Nat.lt_or_ge (rung f) 4607182418800017408 with q | q
    · exact q
    · exfalso
      have h3 := cast_le.2 (mval_le_iff.2 q)
      have hs := hf.size
      have e := (posV V.unit1 (by decide)).2.1
      have : (1 : Rat) ≤ ab a := by
        rw [e, hs, div_le UQ_pos, div_self_mul _ UQ_ne]; exact h3
      have p : pw (-200) ≤ 1 / 2 := by decide +kernel
      grind
  rw [next_to hone (by decide)]
  obtain ⟨x, hx, e⟩ := V.gap (r := rung f) (by omega)
  have g0 := gap_pos (rung f)
  have gs : gapq (rung f) ≤ 1 / 1000000 := by
    refine Rat.le_trans (gap_mono (Nat.le_of_lt hone)) ?_
    rw [gap_pw, e1_eq]
    decide +kernel
  have e' := ab_le.1 e
  have k := Rat.mul_le_mul_of_nonneg_right huu.2 (Rat.le_of_lt g0)
  have h2 := hx.twice (by rw [ab_le]; constructor <;> grind)
  obtain ⟨d, hd, r2⟩ := hm.sub hf (by grind)
  have k2 := Rat.mul_le_mul_of_nonneg_right huu.2 (ab_nn (m - a))
  have t := ab_tri d (m - a) 0
  rw [show d - 0 = d by grind, show m - a - 0 = m - a by grind] at t
  rw [fabs_of (fin_notN hd.fin)]
  exact fle_vals hd.absv h2 (by grind)
theorem more_ready {f : Nat} {a : Rat} (hf : V f a) (ha : -1 < a) (h0 : pw (-200) ≤ ab a) : ∃ m μ, V (moreF f) m ∧ ab m ≤ 900 ∧ (m = 0 ∨ pw (-210) ≤ ab m) ∧ ab μ ≤ 1024 ∧ ∀ σ, ab (σ - (1 + a)) ≤ u4 * ab (1 + a) → 0 < σ ∧ ∃ η, Rl (XX μ) σ η ∧ 0 ≤ η ∧ η ≤ 1 / 1000 ∧ ab (m - μ) + 2 * η ≤ (16 - 1 / 100) * gapq (rung (moreF f)) := by
  obtain ⟨m, μ, η, h1, h2, h3, h4, h5, h6, h7, h8⟩ := more_val hf ha h0
  have p : pw (-210) ≤ pw (-202) := pw_mono (by decide)
  refine ⟨m, μ, h1, h2, .inr (Rat.le_trans p h8), Rat.le_trans h6 (by decide +kernel), fun σ hσ => ?_⟩
  have t : 0 < u4 ∧ u4 ≤ 1 / 1000000 := ⟨u4_pos, by decide +kernel⟩
  have h1a : 0 < 1 + a := by grind
  rw [ab_pos (x := 1 + a) (Rat.le_of_lt h1a)] at hσ
  have k := Rat.mul_le_mul_of_nonneg_right t.2 (Rat.le_of_lt h1a)
  have hσ' := ab_le.1 hσ
  have σ0 : 0 < σ := by grind
  have b : ab (1 + a - σ) ≤ 2 * u4 * σ := by
    rw [ab_comm]
    have : u4 * (1 + a) ≤ u4 * (2 * σ) := Rat.mul_le_mul_of_nonneg_left (by grind) (Rat.le_of_lt t.1)
    grind
  have hs := h3.shift h4 (by grind) σ0 b (by grind) (by grind)
  refine ⟨σ0, _, hs, by grind, by grind, ?_⟩
  have g := (gap_any h1).1
  have g2 := Rat.mul_le_mul_of_nonneg_left h8 (show 0 ≤ uu by decide +kernel)
  have g3 : 1000 * u4 ≤ uu * pw (-202) := by decide +kernel
  grind
theorem log_ready {f : Nat} {a : Rat} (hf : V f a) (ha : 0 < a) : ∃ l μ η, V (logF f) l ∧ ab l ≤ 900 ∧ (l = 0 ∨ pw (-210) ≤ ab l) ∧ ab μ ≤ 1024 ∧ Rl (XX μ) a η ∧ 0 ≤ η ∧ η ≤ 1 / 1000 ∧ ab (l - μ) + 2 * η ≤ (4 - 1 / 100) * gapq (rung (logF f)) := by
  obtain ⟨l, μ, η, h1, h2, h3, h4, h5, h6, h7, h8⟩ := log_val hf ha
  have p : pw (-210) ≤ pw (-61) := pw_mono (by decide)
  refine ⟨l, μ, η, h1, h2, ?_, Rat.le_trans h6 (by decide +kernel), h3, h4, h5, ?_⟩
  · rcases h8 with ⟨h, _⟩ | h
    · exact .inl h
    · exact .inr (Rat.le_trans p h)
  · have e : (4 - 1 / 100 : Rat) = 399 / 100 := by decide +kernel
    rw [e]; exact h7
theorem log_neg {f : Nat} (hn : isN f = false) (h : flt f 0 = true) : logF f = nanB := by
  have hs : sgn f = true := by
    obtain ⟨_, _, h3⟩ := flt_nan h
    have z : sval 0 = 0 := by decide +kernel
    rw [z] at h3
    rcases sval_cases f with ⟨a, b⟩ | ⟨a, b⟩
    · rw [b] at h3; exfalso; generalize mval (rung f) = y at *; omega
    · exact a
  have hi : isInf f 1 = false := by
    unfold isInf
    rw [if_neg (by decide), if_neg (by decide)]
    apply flt_not
    rw [(word_facts (r := 9218868437227405311) (by decide)).2.2.2.2.1]
    have hv : sval f = -(mval (rung f) : Int) := by unfold sval; rw [hs]; simp
    rw [hv]
    generalize mval 9218868437227405311 = x at *; generalize mval (rung f) = y at *; omega
  unfold logF
  rw [hn, hi, h]
  simp
theorem neg_one : isN 13830554455654793216 = false ∧ sval 13830554455654793216 = -(U : Int) ∧ sval 4607182418800017408 = (U : Int) ∧ sval 0 = 0 ∧ isN 0 = false := by decide +kernel
/-- below minus one. -/
theorem below_one {f : Nat} (hl : f < 18446744073709551616) (h : flt f 13830554455654793216 = true) : logF f = nanB ∧ moreF f = nanB := by
  obtain ⟨_, hn, h3⟩ := flt_nan h
  rw [neg_one.2.1] at h3
  have hU : 0 < U := U_pos
  have h0 : flt f 0 = true := flt_of (g := f) neg_one.2.2.2.2 hn (by rw [neg_one.2.2.2.1]; omega)
  refine ⟨log_neg hn h0, ?_⟩
  have hc : ¬ (fle 13821547256400052224 f && fle f 4600427019358961664) = true := by
    rw [fle_eq, c25.1, hn]
    simp only [Bool.not_false, Bool.true_and, Bool.and_eq_true, decide_eq_true_eq]
    intro hh
    have e := c25.2.2.1
    have := hh.1
    omega
  unfold moreF
  rw [if_neg hc]
  have hs : sgn f = true := by
    rcases sval_cases f with ⟨a, b⟩ | ⟨a, b⟩
    · rw [b] at h3; exfalso; generalize mval (rung f) = y at *; omega
    · exact a
  have key : isN (fadd 4607182418800017408 f) = false ∧ flt (fadd 4607182418800017408 f) 0 = true := by
    rcases Nat.lt_or_ge (rung f) 9218868437227405312 with q | q
    · have hf : Proofs.YtcfkhhnkboealaaDoor.fin f = true := by unfold Proofs.YtcfkhhnkboealaaDoor.fin; simpa using q
      rw [fadd_fin (by decide +kernel) hf, neg_one.2.2.1]
      have hne : ¬ ((U : Int) + sval f = 0) := by omega
      have hlt : (U : Int) + sval f < 0 := by omega
      rw [if_neg hne, decide_eq_true hlt]
      have h5 := rndQ_le ((U : Int) + sval f).natAbs 0
      have h6 : 1 ≤ rndN ((U : Int) + sval f).natAbs := by
        have := le_rndN_of (r := 1) (m := ((U : Int) + sval f).natAbs) (by decide) (by
          have : mval 1 = 1 := by decide +kernel
          rw [this]; omega)
        exact this
      have h5' : rndN ((U : Int) + sval f).natAbs ≤ 9218868437227405312 := rndN_le _
      have n1 := wd_notN (s := true) h5'
      refine ⟨n1, flt_of (g := wd true (rndN ((U : Int) + sval f).natAbs)) neg_one.2.2.2.2 n1 ?_⟩
      rw [wd_sval h5', neg_one.2.2.2.1]
      have := mval_pos h6
      simp
      omega
    · have e : rung f = 9218868437227405312 := Nat.le_antisymm ((notN_iff f).1 hn) q
      rw [fadd_infr (by decide +kernel) e, hs]
      decide +kernel
  exact log_neg key.1 key.2
end Go.Proofs.YtcfkhhnkboealaaDoor
