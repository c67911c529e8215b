/- What the statement of half sums asks, way by way. No text of the program. -/
import Derived.Test.YtcfkhhnkboealaaDoorHe
namespace Go.Proofs.YtcfkhhnkboealaaDoor
open Go.RowKit
set_option linter.unusedVariables false
set_option linter.unusedSimpArgs false
set_option maxRecDepth 100000
set_option maxHeartbeats 4000000
open Turns Sizes
theorem inf_false {L s : Nat} {l : Rat} (h : V L l) : isInf L 1 = false ∧ isInf L 0 = false := by
  constructor
  · cases k : isInf L 1
    · rfl
    · exact (inf_not k h.lt h.fin).elim
  · have h1 := h.fin
    have hr := fin_rung h1
    unfold isInf
    rw [if_pos rfl, fabs_of (fin_notN h1), flt_words (by decide) hr]
    simp
    omega
theorem half_fin {f : Nat} {a : Rat} (hf : V f a) (h0 : pw (-200) ≤ ab a) (ha : ab a ≤ 750) (hE : expF (rung f) < 9218868437227405312) :
    V (coshF f) (qv (coshF f)) ∧ V (sinhF f) (qv (sinhF f)) ∧ ∀ v1 v2, Rl v1 (XX a) (tw 300) → Rl v2 (XX (-a)) (tw 300) →
      (∀ x, ab (x - (v1 + v2) * (1 / 2)) ≤ 4 * u4 * ab ((v1 + v2) * (1 / 2)) → 1001 / 1000 * ab (qv (coshF f) - x) ≤ 16 * gapq (rung (coshF f))) ∧
      (∀ x, ab (x - (v1 - v2) * (1 / 2)) ≤ 4 * u4 * ab ((v1 - v2) * (1 / 2)) → 1001 / 1000 * ab (qv (sinhF f) - x) ≤ 16 * gapq (rung (sinhF f))) := by
  have hn := fin_notN hf.fin
  have hb := hf.absv
  rw [coshF_of hf.lt hn, sinhF_of hn]
  have hR : ∀ x : Rat, ab x ≤ 1024 → Rl (XX x) (XX x) (tw 300) := by
    intro x hx
    have hX := XX_pos hx
    refine ⟨?_, hX⟩
    rw [show XX x - XX x = 0 by grind, show ab (0 : Rat) = 0 by decide +kernel]
    exact Rat.mul_nonneg (Rat.le_of_lt (tw_pos 300)) (Rat.le_of_lt hX)
  obtain ⟨⟨c, c1, c2, _⟩, s, s1, s0, s2, _⟩ := half_words hb h0 ha (hR _ (by rw [ab_pos (ab_nn a)]; exact Rat.le_trans ha (by decide +kernel))) (hR _ (by rw [ab_neg, ab_pos (ab_nn a)]; exact Rat.le_trans ha (by decide +kernel))) hE
  have hsw : signed (sinhH (lessE (rung f))) f = wd (sgn f) (sinhH (lessE (rung f))) := signed_word (.inl s2) hn
  rw [hsw]
  have hsV := V.word (s := sgn f) s2
  refine ⟨by rw [c1.val]; exact c1, by rw [hsV.val]; exact hsV, fun v1 v2 k1 k2 => ?_⟩
  rw [c1.val, hsV.val, wd_rung (Nat.le_of_lt s2), (word_facts c2).2.2.1]
  have gc := mval_gap (coshF (rung f))
  have gs := mval_gap (sinhH (lessE (rung f)))
  rw [← (posV c1 c2).2.1] at gc
  rw [← (posV s1 s2).2.1] at gs ⊢
  have gC := gap_pos (coshF (rung f))
  have gS := gap_pos (sinhH (lessE (rung f)))
  have c0 := (posV c1 c2).1
  have hform := hf.form
  have hsz := hf.size
  rw [← hsz] at hform
  cases hg : sgn f
  · rw [hg] at hform
    have hform' : a = ab a := hform
    obtain ⟨⟨c', d1, d2, d3⟩, s', t1, t0, t2, t3⟩ := half_words hb h0 ha (v := v1) (w := v2) (by rw [← hform']; exact k1) (by rw [← hform']; exact k2) hE
    rw [d1.uniq c1] at d3
    rw [t1.uniq s1] at t3
    refine ⟨fun x hx => small_room d3 (by rw [ab_pos c0]; exact gc) hx (Rat.le_of_lt gC), fun x hx => ?_⟩
    show 1001 / 1000 * ab (s - x) ≤ _
    exact small_room t3 (by rw [ab_pos (Rat.le_of_lt s0)]; exact gs) hx (Rat.le_of_lt gS)
  · rw [hg] at hform
    have hform' : a = -(ab a) := hform
    have hform2 : -a = ab a := by grind
    obtain ⟨⟨c', d1, d2, d3⟩, s', t1, t0, t2, t3⟩ := half_words hb h0 ha (v := v2) (w := v1) (by rw [← hform2]; exact k2) (by rw [← hform']; exact k1) hE
    rw [d1.uniq c1, show v2 + v1 = v1 + v2 by grind] at d3
    rw [t1.uniq s1, show s - (v2 - v1) * (1 / 2) = -(-s - (v1 - v2) * (1 / 2)) by grind, ab_neg] at t3
    refine ⟨fun x hx => small_room d3 (by rw [ab_pos c0]; exact gc) hx (Rat.le_of_lt gC), fun x hx => ?_⟩
    show 1001 / 1000 * ab (-s - x) ≤ _
    exact small_room t3 (by rw [ab_neg, ab_pos (Rat.le_of_lt s0)]; exact gs) hx (Rat.le_of_lt gS)
/-- infinite ones. -/
theorem half_inf {f : Nat} (hl : f < 18446744073709551616) (hn : isN f = false) (hE : expF (rung f) = infP) (hL : lessE (rung f) = infP) (hF : Proofs.YtcfkhhnkboealaaDoor.fin (expF (fneg (rung f))) = true) : coshF f = infP ∧ sinhF f = wd (sgn f) infP := by
  constructor
  · rw [coshF_of hl hn]
    unfold coshF
    rw [hE, fadd_infl (by decide +kernel) hF]
    decide +kernel
  · rw [sinhF_of hn, hL, show sinhH infP = infP by decide +kernel]
    exact signed_word (.inr rfl) hn
/-- where they are infinite, up to 750. -/
theorem half_inf_mid {f : Nat} {a : Rat} (hf : V f a) (h0 : pw (-200) ≤ ab a) (ha : ab a ≤ 750) (hE : ¬ expF (rung f) < 9218868437227405312) :
    coshF f = infP ∧ sinhF f = wd (sgn f) infP ∧ flt 4649454506724284170 (rung f) = true := by
  have hn := fin_notN hf.fin
  have hb := hf.absv
  have haa : ab (ab a) = ab a := ab_pos (ab_nn a)
  have hR : ∀ x : Rat, ab x ≤ 1024 → Rl (XX x) (XX x) (tw 62) := by
    intro x hx
    have hX := XX_pos hx
    refine ⟨?_, hX⟩
    rw [show XX x - XX x = 0 by grind, show ab (0 : Rat) = 0 by decide +kernel]
    exact Rat.mul_nonneg (Rat.le_of_lt (tw_pos 62)) (Rat.le_of_lt hX)
  obtain ⟨hi, hbig⟩ : expF (rung f) = infP ∧ pw 1024 * (1 - 498 / 100 * uu) ≤ XX (ab a) := by
    rcases exp_law hb (by rw [haa]; exact ha) (hR _ (by rw [haa]; exact Rat.le_trans ha (by decide +kernel))) with ⟨c, c1, c2, c3, _⟩ | h
    · exact absurd c3 hE
    · exact h
  have hbig2 : 709781 / 1000 ≤ ab a := by
    rcases (show 709781 / 1000 ≤ ab a ∨ ab a < 709781 / 1000 by grind) with q | q
    · exact q
    · exfalso
      have := XX_low (ab_nn a) (Rat.le_of_lt q)
      have hp := pw_pos 1024
      have u1 : 498 / 100 * uu ≤ 1 / 100000 := by decide +kernel
      have := Rat.mul_le_mul_of_nonneg_left u1 (Rat.le_of_lt hp)
      grind
  have hF : Proofs.YtcfkhhnkboealaaDoor.fin (expF (fneg (rung f))) = true := by
    have hX1 := XX_ge (ab_nn a)
    rcases exp_law hb.neg (by rw [ab_neg, haa]; exact ha) (hR _ (by rw [ab_neg, haa]; exact Rat.le_trans ha (by decide +kernel))) with ⟨c, c1, _⟩ | ⟨_, h2⟩
    · exact c1.fin
    · exfalso
      have h3 := XX_add (a := ab a) (b := -(ab a)) (by rw [haa]; exact Rat.le_trans ha (by decide +kernel)) (by rw [ab_neg, haa]; exact Rat.le_trans ha (by decide +kernel))
      rw [show ab a + -(ab a) = 0 by grind, XX_zero] at h3
      have h4 := (rl_pos h3 (by decide +kernel)).2.2
      have t5 : tw 553 ≤ 1 := by decide +kernel
      have k : 2 ≤ pw 1024 := by
        have : pw 1 ≤ pw 1024 := pw_mono (by decide)
        have e : pw 1 = 2 := by decide +kernel
        grind
      have u1 : 99 / 100 ≤ 1 - 498 / 100 * uu := by decide +kernel
      have k2 := mul_mono (by decide +kernel : (0 : Rat) ≤ 2) k (by decide +kernel : (0 : Rat) ≤ 99 / 100) u1
      have k3 := mul_mono (by decide +kernel : (0 : Rat) ≤ 700) (show 700 ≤ XX (ab a) by grind) (by decide +kernel : (0 : Rat) ≤ 1) (show 1 ≤ XX (-(ab a)) by grind)
      grind
  have hL : lessE (rung f) = infP := by
    obtain ⟨n, r, n1, n2, n3, n4, _, n6, _⟩ := exp_rest hb (by rw [haa]; exact Rat.le_trans ha (by decide +kernel))
    unfold lessE
    rw [fin_notN hb.fin, if_neg (by decide)]
    cases k1 : flt 4649454594685214392 (rung f)
    · rw [if_neg (by decide), feq_zero (fin_notN n1.fin)]
      by_cases hz : rung (expN (rung f)) = 0
      · exfalso
        have hs := n1.size
        rw [hz, mval_zero] at hs
        have e : ((0 : Nat) : Rat) / (U : Rat) = 0 := by
          have a := div_self_mul ((0 : Nat) : Rat) UQ_ne
          have := UQ_ne
          have e0 : ((0 : Nat) : Rat) = 0 := rfl
          rw [e0] at a ⊢
          grind
        rw [e] at hs
        have h1 := (ab_le.1 (show ab (n : Rat) ≤ 0 by grind))
        have h2 : (n : Rat) = 0 := by grind
        rw [h2, Rat.zero_mul, show ab a - 0 = ab a by grind, haa] at n6
        grind
      · rw [decide_eq_false hz, if_neg (by decide), hi]
        decide +kernel
    · rw [if_pos rfl]
  obtain ⟨r1, r2⟩ := half_inf hf.lt hn hi hL hF
  refine ⟨r1, r2, ?_⟩
  have hr := fin_rung hf.fin
  rw [flt_words (by decide) hr]
  have h1 := (V.pos (r := 4649454506724284170) (by decide))
  have h2 : (mval 4649454506724284170 : Rat) / (U : Rat) ≤ 7097801 / 10000 := by
    rw [div_le UQ_pos]
    have h3 : mval 4649454506724284170 * 10000 ≤ 7097801 * U := by decide +kernel
    have h4 := cast_le.2 h3
    rw [cast_mul, cast_mul] at h4
    have e1 : ((10000 : Nat) : Rat) = 10000 := by decide +kernel
    have e2 : ((7097801 : Nat) : Rat) = 7097801 := by decide +kernel
    grind
  have h5 := hf.size
  rcases Nat.lt_or_ge 4649454506724284170 (rung f) with q | q
  · simpa using q
  · exfalso
    have h3 := cast_le.2 (mval_le_iff.2 q)
    have h4 : (mval (rung f) : Rat) / (U : Rat) ≤ (mval 4649454506724284170 : Rat) / (U : Rat) := by
      rw [div_le UQ_pos, div_self_mul _ UQ_ne]; exact h3
    grind
theorem half_inf_far {f : Nat} (hl : f < 18446744073709551616) (hn : isN f = false) (h : flt 4649808285585637376 (rung f) = true) :
    coshF f = infP ∧ sinhF f = wd (sgn f) infP ∧ flt 4649454506724284170 (rung f) = true := by
  have hr : rung f ≤ 9218868437227405312 := (notN_iff f).1 hn
  have hlr : rung f < 18446744073709551616 := by omega
  obtain ⟨hnr, _, hs⟩ := flt_nan h
  obtain ⟨u1, u2⟩ := far_up h
  have hsr : sgn (rung f) = false := by unfold sgn; simp; omega
  have e1 : sval (rung f) = (mval (rung f) : Int) := by
    rcases sval_cases (rung f) with ⟨a, b⟩ | ⟨a, b⟩
    · rw [b, rung_pos hr]
    · rw [hsr] at a; cases a
  rw [e1, (word_facts (r := 4649808285585637376) (by decide)).2.2.2.2.1] at hs
  have hd : flt (fneg (rung f)) 13873180322440413184 = true := by
    have e := neg_word (g := 4649808285585637376) (by decide)
    refine flt_of (g := fneg (rung f)) e.2 (by rw [isN_neg]; exact hnr) ?_
    rw [show (13873180322440413184 : Nat) = 4649808285585637376 + 9223372036854775808 from rfl, e.1]
    have h1 := sgn_neg hlr hnr
    rw [hsr] at h1
    have h2 : sval (fneg (rung f)) = -(mval (rung f) : Int) := by
      unfold sval; rw [h1, rung_neg' hnr, rung_pos hr]; rfl
    rw [h2]
    generalize mval 4649808285585637376 = x at *; generalize mval (rung f) = y at *; omega
  have hF : Proofs.YtcfkhhnkboealaaDoor.fin (expF (fneg (rung f))) = true := by
    rw [(far_down hd).1]; decide +kernel
  obtain ⟨r1, r2⟩ := half_inf hl hn u1 u2 hF
  refine ⟨r1, r2, flt_of hnr (by decide +kernel) ?_⟩
  rw [e1, (word_facts (r := 4649454506724284170) (by decide)).2.2.2.2.1]
  exact Int.lt_trans (Int.ofNat_lt.2 (mval_lt (by decide))) hs
/-- tiny ones. -/
theorem half_tiny {f : Nat} {a : Rat} (hf : V f a) (ha : ab a ≤ pw (-150)) : coshF f = 4607182418800017408 ∧ sinhF f = f := by
  have hn := fin_notN hf.fin
  have hb := hf.absv
  have haa : ab (ab a) = ab a := ab_pos (ab_nn a)
  constructor
  · unfold coshF
    rw [(tiny_law hf ha).1, (tiny_law hf.neg (by rw [ab_neg]; exact ha)).1]
    decide +kernel
  · rw [sinhF_of hn, (tiny_law hb (by rw [haa]; exact ha)).2, sinhH_fin (inf_false (s := 0) hb).1, fadd_comm (rung f) 4607182418800017408, one_add hb (by rw [haa]; exact Rat.le_trans ha (by decide +kernel)), fdiv_one hb.lt hb.fin]
    have hr := fin_rung hf.fin
    have hsm : rung f < 9214364837600034816 := by
      have h1 : (1 : Rat) ≤ (mval 9214364837600034816 : Rat) / (U : Rat) := by
        rw [le_div UQ_pos, Rat.one_mul]
        exact cast_le.2 (by decide +kernel)
      rcases Nat.lt_or_ge (rung f) 9214364837600034816 with q | q
      · exact q
      · exfalso
        have h3 := cast_le.2 (mval_le_iff.2 q)
        have h4 : (mval 9214364837600034816 : Rat) / (U : Rat) ≤ (mval (rung f) : Rat) / (U : Rat) := by
          rw [div_le UQ_pos, div_self_mul _ UQ_ne]; exact h3
        have h5 := hf.size
        have h6 : pw (-150) ≤ 1 / 2 := by decide +kernel
        grind
    rw [twice_half hsm, signed_word (.inl hr) hn]
    exact (num_wd hf.lt).symm
theorem sinhF_turn {f W : Nat} (hl : f < 18446744073709551616) (hn : isN f = false) (h : sinhH (lessE (rung f)) ≤ 9218868437227405312) : sinhF (fneg f) = fneg (sinhF f) := by
  have hw : sinhH (lessE (rung f)) < 9218868437227405312 ∨ sinhH (lessE (rung f)) = 9218868437227405312 := by omega
  rw [sinhF_of hn, sinhF_of (by rw [isN_neg]; exact hn), rung_neg' hn, signed_word hw hn, signed_word hw (by rw [isN_neg]; exact hn), sgn_neg hl hn, wd_neg h]
end Go.Proofs.YtcfkhhnkboealaaDoor
