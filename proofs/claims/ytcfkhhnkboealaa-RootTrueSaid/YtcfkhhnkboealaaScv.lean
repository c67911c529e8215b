/- What a float times a power of two is worth: the nearest float of it. Plain. -/
import Derived.Test.YtcfkhhnkboealaaStra
import Derived.Test.YtcfkhhnkboealaaPara
namespace Go.Proofs.Ytcfkhhnkboealaa
set_option linter.unusedVariables false
set_option linter.unusedSimpArgs false
set_option maxRecDepth 100000
/-- the rung nearest to m * 2 ^ t, in units of 2^-1074. -/
def rndE (m : Nat) (t : Int) : Nat := rndQ (m * 2 ^ t.toNat) (-t).toNat
theorem rndE_nat (m k : Nat) : rndE m (k : Int) = rndN (m * 2 ^ k) := by
  unfold rndE; rw [Int.toNat_natCast, show (-(k : Int)).toNat = 0 by omega]; rfl
theorem rndE_neg (m k : Nat) : rndE m (-(k : Int)) = rndQ m k := by
  unfold rndE; rw [show (-(k : Int)).toNat = 0 by omega, show (-(-(k : Int))).toNat = k by omega, Nat.pow_zero, Nat.mul_one]
theorem rndE_le (m : Nat) (t : Int) : rndE m t ≤ 9218868437227405312 := rndQ_le _ _
theorem rndE_shift (m k : Nat) (t : Int) : rndE (m * 2 ^ k) t = rndE m (t + k) := by
  unfold rndE
  by_cases h : 0 ≤ t
  · rw [show (t + k).toNat = k + t.toNat by omega, show (-t).toNat = 0 by omega, show (-(t + k)).toNat = 0 by omega, Nat.mul_assoc, ← Nat.pow_add]
  · by_cases h2 : 0 ≤ t + k
    · obtain ⟨d, hd⟩ : ∃ d : Nat, (-t).toNat = d := ⟨_, rfl⟩
      obtain ⟨e, he⟩ : ∃ e : Nat, (t + k).toNat = e := ⟨_, rfl⟩
      rw [hd, he, show t.toNat = 0 by omega, show (-(t + k)).toNat = 0 by omega, Nat.pow_zero, Nat.mul_one]
      have := rndQ_scale (m * 2 ^ e) 0 d
      rw [Nat.mul_assoc, ← Nat.pow_add, show e + d = k by omega, Nat.zero_add] at this
      exact this
    · rw [show t.toNat = 0 by omega, show (t + k).toNat = 0 by omega, Nat.pow_zero, Nat.mul_one, Nat.mul_one]
      have := rndQ_scale m (-(t + k)).toNat k
      rw [show (-(t + k)).toNat + k = (-t).toNat by omega] at this
      exact this
theorem rndE_zero (t : Int) : rndE 0 t = 0 := by unfold rndE; rw [Nat.zero_mul]; unfold rndQ; rw [if_pos rfl]
/-- by one's own choice of powers. -/
theorem rndE_form {m : Nat} (hm : m ≠ 0) {t : Int} {L p q : Nat} (hL : (L : Int) = max ((m.log2 : Int) + t - 52) 0) (h : (q : Int) - (p : Int) = (L : Int) - t) : rndE m t = min (L * 4503599627370496 + rne (m * 2 ^ p) (2 ^ q)) 9218868437227405312 := by
  have key : ∀ p' q' : Nat, (q' : Int) - (p' : Int) = (L : Int) - t → rne (m * 2 ^ p') (2 ^ q') = rne (m * 2 ^ p) (2 ^ q) := by
    intro p' q' h'
    have a := rne_scale (m * 2 ^ p) (2 ^ q) (2 ^ p') (Nat.two_pow_pos _)
    have b := rne_scale (m * 2 ^ p') (2 ^ q') (2 ^ p) (Nat.two_pow_pos _)
    rw [Nat.mul_assoc, ← Nat.pow_add, ← Nat.pow_add] at a b
    rw [← a, ← b, show p' + p = p + p' by omega, show q' + p = q + p' by omega]
  unfold rndE rndQ
  have h0 : m * 2 ^ t.toNat ≠ 0 := Nat.mul_ne_zero hm (Nat.ne_of_gt (Nat.two_pow_pos _))
  rw [if_neg h0, log2_mul _ _ hm]
  have e : m.log2 + t.toNat - 52 - (-t).toNat = L := by omega
  rw [e, key _ _ (by omega)]
theorem log2_52 {M : Nat} (h1 : 4503599627370496 ≤ M) (h2 : M < 9007199254740992) : M.log2 = 52 := (Nat.log2_eq_iff (by omega)).2 ⟨by omega, by omega⟩
theorem mval_stp {s q : Nat} (h1 : 4503599627370496 ≤ q) (h2 : q < 9007199254740992) : mval (s * 4503599627370496 + q) = q * 2 ^ s := by
  unfold mval
  rw [if_neg (by omega), show (s * 4503599627370496 + q) % 4503599627370496 = q - 4503599627370496 by omega, show (s * 4503599627370496 + q) / 4503599627370496 - 1 = s by omega, show 4503599627370496 + (q - 4503599627370496) = q by omega]
/-- a float brought up to full length. -/
theorem norm_val {f : Nat} (hf : fin f = true) (h0 : rung f ≠ 0) (hl : f < 18446744073709551616) : ∃ G, normF f = wd (sgn f) G ∧ 4503599627370496 ≤ G ∧ G < 9218868437227405312 ∧ ∃ c : Nat, normE f = -(c : Int) ∧ mval G = mval (rung f) * 2 ^ c := by
  have hn := fin_notN hf
  cases hs : flt (fabs f) 4503599627370496
  · refine ⟨rung f, ?_, ?_, fin_rung hf, 0, ?_, by rw [Nat.pow_zero, Nat.mul_one]⟩
    · unfold normF; rw [hs, if_neg (by decide)]; exact num_wd hl
    · rw [flt_eq, isN_abs, hn, show isN 4503599627370496 = false by decide +kernel, sval_abs hn, show sval 4503599627370496 = ((mval 4503599627370496 : Nat) : Int) by decide +kernel] at hs
      simp at hs
      exact mval_le_iff.1 hs
    · unfold normE; rw [hs]; rfl
  · obtain ⟨h1, h2⟩ := normF_tiny hs
    have h3 := rnd_exact (m := rung f) (k := 52) (by omega) (by decide)
    rw [show (2 : Nat) ^ 52 = 4503599627370496 by decide] at h3
    refine ⟨_, h1, ?_, h3.1, 52, ?_, ?_⟩
    · apply mval_le_iff.1
      rw [h3.2, show mval 4503599627370496 = 1 * 4503599627370496 by decide +kernel]
      exact Nat.mul_le_mul_right _ (by omega)
    · unfold normE; rw [hs]; rfl
    · rw [h3.2]; unfold mval; rw [if_pos h2]
theorem mval_two (k : Nat) : mval ((k + 1) * 4503599627370496) = 2 ^ (52 + k) := by
  rw [show (k + 1) * 4503599627370496 = k * 4503599627370496 + 4503599627370496 by omega, mval_stp (by omega) (by omega), Nat.pow_add]
theorem sgn_wd_ite (s : Bool) : nrm (rung 0 + if sgn (wd s 0) = true then 9223372036854775808 else 0) = wd s 0 := by cases s <;> decide +kernel
theorem tiny_mul {s : Bool} {M e : Nat} (h1 : 4503599627370496 ≤ M) (h2 : M < 9007199254740992) (he1 : 1 ≤ e) (he2 : e ≤ 53) : fmul 4368491638549381120 (wd s (e * 4503599627370496 + (M - 4503599627370496))) = wd s (rndQ M (54 - e)) := by
  have hr : e * 4503599627370496 + (M - 4503599627370496) < 9218868437227405312 := by omega
  have hfin : fin (wd s (e * 4503599627370496 + (M - 4503599627370496))) = true := by unfold fin; rw [wd_rung (by omega)]; simpa using hr
  rw [fmul_fin (by decide +kernel) hfin, wd_rung (by omega), wd_sgn (by omega), show sgn 4368491638549381120 = false by decide +kernel, Bool.false_xor]
  obtain ⟨k, rfl⟩ : ∃ k, e = k + 1 := ⟨e - 1, by omega⟩
  obtain ⟨K, hK⟩ : ∃ K : Nat, K = 969 := ⟨_, rfl⟩
  have e2 : mval (rung 4368491638549381120) = 2 ^ (52 + K) := by
    rw [show rung 4368491638549381120 = (K + 1) * 4503599627370496 by rw [hK]; decide +kernel, mval_two]
  rw [show (k + 1) * 4503599627370496 + (M - 4503599627370496) = k * 4503599627370496 + M by omega, mval_stp h1 h2, e2, Nat.mul_comm, Nat.mul_assoc, ← Nat.pow_add]
  have := rndQ_scale M (54 - (k + 1)) (k + (52 + K))
  rw [show 54 - (k + 1) + (k + (52 + K)) = 1074 by omega] at this
  rw [this]
theorem one_mul' {s : Bool} {r : Nat} (hr : r < 9218868437227405312) : fmul 4607182418800017408 (wd s r) = wd s r := by
  have hfin : fin (wd s r) = true := by unfold fin; rw [wd_rung (by omega)]; simpa using hr
  rw [fmul_fin (by decide +kernel) hfin, wd_rung (by omega), wd_sgn (by omega), show sgn 4607182418800017408 = false by decide +kernel, Bool.false_xor]
  obtain ⟨K, hK⟩ : ∃ K : Nat, K = 1022 := ⟨_, rfl⟩
  have e2 : mval (rung 4607182418800017408) = 2 ^ (52 + K) := by
    rw [show rung 4607182418800017408 = (K + 1) * 4503599627370496 by rw [hK]; decide +kernel, mval_two]
  rw [e2, Nat.mul_comm, show 1074 = 52 + K by omega, rndQ_cancel, rnd_mval hr]
/-- WHAT A SCALED FLOAT IS WORTH -/
theorem scale_val {f : Nat} (hl : f < 18446744073709551616) (hf : fin f = true) (h0 : rung f ≠ 0) (n : Int) : scaleF f n = wd (sgn f) (rndE (mval (rung f)) n) := by
  have hn := fin_notN hf
  obtain ⟨G, g1, g2, g3, c, g4, g5⟩ := norm_val hf h0 hl
  have g6 := normF_lt hl
  obtain ⟨E, hE⟩ : ∃ E, G / 4503599627370496 = E := ⟨_, rfl⟩
  obtain ⟨M, hM⟩ : ∃ M, M = 4503599627370496 + G % 4503599627370496 := ⟨_, rfl⟩
  have hM1 : 4503599627370496 ≤ M := by omega
  have hM2 : M < 9007199254740992 := by omega
  have hG : G = (E - 1) * 4503599627370496 + M := by omega
  have hE1 : 1 ≤ E := by omega
  have hE2 : E ≤ 2046 := by omega
  rw [hG, mval_stp hM1 hM2] at g5
  obtain ⟨x, hx⟩ : ∃ x, expOf f n = x := ⟨_, rfl⟩
  have hx2 : x = n - c + E - 1023 := by
    rw [← hx]; unfold expOf
    rw [g4, exp_field g6, g1, wd_rung (by omega), hE]; omega
  have hT : rndE (mval (rung f)) n = rndE M (x + 1022) := by
    have e1 := rndE_shift (mval (rung f)) c (n - c)
    rw [← g5, rndE_shift] at e1
    rw [show n = n - c + c by omega, ← e1]
    congr 1; omega
  rw [hT]
  unfold scaleF
  rw [feq_zero hn, isInf0 hn, hf, hn, hx]
  rw [if_neg (by simp [h0])]
  have hfld : ∀ e : Nat, e < 2047 → normF f / 9223372036854775808 * 9223372036854775808 + e * 4503599627370496 + normF f % 4503599627370496 = wd (sgn f) (e * 4503599627370496 + (M - 4503599627370496)) := by
    intro e he
    rw [fields_wd g6 e he, g1, wd_rung (by omega), wd_sgn (by omega), show M - 4503599627370496 = G % 4503599627370496 by omega]
  by_cases c1 : x < -1075
  · rw [if_pos c1]
    unfold copyF
    rw [g1, wd_sgn (by omega)]
    have hz : rndE M (x + 1022) = 0 := by
      obtain ⟨d, hd⟩ : ∃ d : Nat, x + 1022 = -(d : Int) := ⟨(-(x + 1022)).toNat, by omega⟩
      rw [hd, rndE_neg]
      unfold rndQ
      rw [if_neg (by omega), log2_52 hM1 hM2, show 52 - 52 - d = 0 by omega, Nat.zero_mul, Nat.zero_add, Nat.add_zero]
      have : 2 ^ 54 ≤ 2 ^ d := Nat.pow_le_pow_right (by decide) (by omega)
      rw [show (2 : Nat) ^ 54 = 18014398509481984 by decide] at this
      rw [rne_small (by omega)]; decide
    rw [hz]
    cases sgn f <;> decide +kernel
  · rw [if_neg c1]
    by_cases c2 : 1023 < x
    · rw [if_pos c2]
      have hz : rndE M (x + 1022) = 9218868437227405312 := by
        obtain ⟨d, hd⟩ : ∃ d : Nat, x + 1022 = (d : Int) := ⟨(x + 1022).toNat, by omega⟩
        rw [rndE_form (m := M) (L := d) (p := d) (q := d) (by omega) (by rw [log2_52 hM1 hM2]; omega) (by omega)]
        rw [rne_mul _ _ (Nat.two_pow_pos _)]
        have hd2 : 2046 ≤ d := by omega
        exact Nat.min_eq_right (by clear hfld hT hx2 hx g5 g4 hE; omega)
      have hp := mval_pos (show 0 < G by omega)
      have hfl : flt (normF f) 0 = sgn f := by
        rw [flt_eq, g1, wd_notN (by omega), show isN 0 = false by decide +kernel, wd_sval (by omega), sval_zero]
        generalize mval G = m at hp
        cases sgn f
        · simp
        · simp; omega
      rw [hz, hfl]
      cases sgn f <;> rfl
    · rw [if_neg c2]
      by_cases c3 : x < -1022
      · rw [if_pos c3, hfld _ (by omega), tiny_mul hM1 hM2 (by omega) (by omega)]
        obtain ⟨d, hd⟩ : ∃ d : Nat, x + 1022 = -(d : Int) := ⟨(-(x + 1022)).toNat, by omega⟩
        rw [hd, rndE_neg, show 54 - (x + 1076).toNat = d by omega]
      · rw [if_neg c3, hfld _ (by omega), one_mul' (by omega)]
        obtain ⟨d, hd⟩ : ∃ d : Nat, x + 1022 = (d : Int) := ⟨(x + 1022).toNat, by omega⟩
        rw [hd, rndE_form (m := M) (L := d) (p := d) (q := d) (by omega) (by rw [log2_52 hM1 hM2]; omega) (by omega), rne_mul _ _ (Nat.two_pow_pos _), show (x + 1023).toNat = d + 1 by omega]
        have hd2 : d ≤ 2045 := by omega
        clear hfld hT hx2 hx g5 g4 hE
        rw [Nat.min_eq_left (by omega), show (d + 1) * 4503599627370496 + (M - 4503599627370496) = d * 4503599627370496 + M by omega]
/-- of nought nought. -/
theorem scale_nought {f : Nat} (hn : isN f = false) (h0 : rung f = 0) (n : Int) : scaleF f n = f := by
  unfold scaleF
  rw [feq_zero hn, h0]; rfl
/-- of what is not finite that itself. -/
theorem scale_notfin {f : Nat} (hn : fin f = false) (n : Int) : scaleF f n = f := by
  unfold scaleF
  cases h : isN f
  · rw [isInf0 h, hn]; simp
  · simp
end Go.Proofs.Ytcfkhhnkboealaa
