/- With all signs turned the answers of the plain functions are turned, too. No condition. -/
import Derived.Test.YtndknkdfbjfjcaaDoorAdd
namespace Go.Proofs.YtndknkdfbjfjcaaDoor
set_option linter.unusedVariables false

theorem wd_self {f : Nat} (hl : f < 18446744073709551616) : wd (sgn f) (rung f) = f := (num_wd hl).symm
theorem sgn_neg {f : Nat} (hl : f < 18446744073709551616) (hn : isN f = false) : sgn (fneg f) = !sgn f := by unfold fneg; rw [hn]; exact sgn_xor hl
theorem rung_neg' {f : Nat} (hn : isN f = false) : rung (fneg f) = rung f := by unfold fneg; rw [hn]; exact rung_xor f
theorem fneg_lt {f : Nat} (hl : f < 18446744073709551616) : fneg f < 18446744073709551616 := by
  unfold fneg; split
  · decide +kernel
  · exact Nat.xor_lt_two_pow (n := 64) hl (by decide)
theorem fneg_wd {f : Nat} (hl : f < 18446744073709551616) (hn : isN f = false) : fneg f = wd (!sgn f) (rung f) := by
  have h := num_wd (fneg_lt hl)
  rw [sgn_neg hl hn, rung_neg' hn] at h
  exact h
theorem fneg_nan {f : Nat} (hn : isN f = true) : fneg f = nanB := by unfold fneg; rw [hn]; rfl
theorem fabs_neg (f : Nat) : fabs (fneg f) = fabs f := by
  cases hn : isN f
  · rw [fabs_of (by rw [isN_neg, hn]), fabs_of hn, rung_neg' hn]
  · unfold fabs; rw [isN_neg, hn]; simp
theorem up_turn {f : Nat} (hl : f < 18446744073709551616) (hn : isN f = false) : upF (fneg f) = fneg (downF f) := by
  obtain ⟨r, hr, rfl | rfl⟩ := split_num hl hn
  · have e : fneg f = 9223372036854775808 + f := by
      rw [fneg_of hl hn, sgn_rung (by omega), rung_pos hr]; simp; omega
    rw [e, up_neg hr, down_pos hr]
    split
    · decide +kernel
    · rw [fneg_of (by omega) (num_pos (by omega)), sgn_rung (by omega), rung_pos (by omega)]; simp; omega
  · have e : fneg (9223372036854775808 + r) = r := by
      rw [fneg_of hl hn, show sgn (9223372036854775808 + r) = true by unfold sgn; simp; omega, rung_neg hr]; simp
    rw [e, up_pos hr, down_neg hr]
    split
    · rw [e]
    · rw [fneg_of (by omega) (num_neg (by omega)), show sgn (9223372036854775808 + (r + 1)) = true by unfold sgn; simp; omega, rung_neg (by omega)]; simp
theorem up_turn_nan {f : Nat} (hn : f = nanB) : upF (fneg f) = nanB ∧ fneg (downF f) = nanB := by subst hn; decide +kernel
/-- products -/
theorem fmul_turn {f g : Nat} (hl : f < 18446744073709551616) (hf : fin f = true) (hg : fin g = true) : fmul (fneg f) g = fneg (fmul f g) := by
  rw [fmul_fin (by rw [fin_neg]; exact hf) hg, fmul_fin hf hg, sgn_neg hl (fin_notN hf), rung_neg' (fin_notN hf), wd_neg (rndQ_le _ _)]
  cases sgn f <;> cases sgn g <;> rfl
theorem fmul_turn2 {f g : Nat} (hl : f < 18446744073709551616) (hf : fin f = true) (hg : fin g = true) : fmul g (fneg f) = fneg (fmul g f) := by
  rw [fmul_fin hg (by rw [fin_neg]; exact hf), fmul_fin hg hf, sgn_neg hl (fin_notN hf), rung_neg' (fin_notN hf), wd_neg (rndQ_le _ _)]
  cases sgn f <;> cases sgn g <;> rfl
theorem cut_sign (s : Bool) (n d : Nat) : Ieee.Toward.even.cut s n d = Ieee.Toward.even.cut false n d := rfl
theorem nearest_zero (s : Bool) (m : Nat) : ∃ c, c ≤ 9218868437227405312 ∧ ∀ s, Ieee.double.nearest s m 0 = wd s c := by
  obtain ⟨k, hk⟩ : ∃ k : Nat, (0 : Int) = -1074 + (k : Int) := ⟨1074, rfl⟩
  refine ⟨rndN (m * 2 ^ k), rndN_le _, fun s => ?_⟩
  rw [hk, nearest_int, word_eq]
theorem whole_number {f : Nat} (hf : fin f = true) : ∃ c, c ≤ 9218868437227405312 ∧ wholeF f = wd (sgn f) c ∧ (f < 18446744073709551616 → wholeF (fneg f) = wd (!sgn f) c) := by
  obtain ⟨m, k, hr, hm, _⟩ := read_number (fin_rung hf)
  have hn := fin_notN hf
  obtain ⟨c, hc, h⟩ := nearest_zero false (Ieee.Toward.even.cut false (m <<< (-1074 + (k : Int)).toNat) (-(-1074 + (k : Int))).toNat)
  refine ⟨c, hc, ?_, fun hl => ?_⟩
  · unfold wholeF
    rw [hn, hr]
    simp only [Bool.false_eq_true, if_false, Ieee.Datum.integral]
    show Ieee.double.nearest _ _ _ = _
    rw [cut_sign]
    exact h _
  · unfold wholeF
    rw [isN_neg, hn]
    unfold fneg
    rw [hn]
    simp only [Bool.false_eq_true, if_false]
    rw [read_xor hl hn, hr]
    simp only [Ieee.Datum.opposite, Ieee.Datum.integral]
    show Ieee.double.nearest _ _ _ = _
    rw [cut_sign]
    exact h _
theorem whole_turn {f : Nat} (hl : f < 18446744073709551616) : wholeF (fneg f) = fneg (wholeF f) := by
  cases hn : isN f
  · by_cases hf : fin f = true
    · obtain ⟨c, h2, h1, h3⟩ := whole_number hf
      rw [h1, h3 hl, wd_neg h2]
    · have hi : rung f = 9218868437227405312 := by
        have := (notN_iff f).1 hn
        unfold fin at hf; simp at hf; omega
      have hi2 : rung (fneg f) = 9218868437227405312 := by rw [rung_neg' hn]; exact hi
      unfold wholeF
      rw [isN_neg, hn, read_inf hi, read_inf hi2, sgn_neg hl hn]
      show Ieee.double.word _ _ = fneg (Ieee.double.word _ _)
      rw [word_eq, word_eq, show Ieee.double.infRung = 9218868437227405312 by decide +kernel, wd_neg (by omega)]
  · have e : wholeF f = nanB := by unfold wholeF; rw [hn]; rfl
    have e2 : wholeF nanB = nanB := by unfold wholeF; rw [isN_nanB]; rfl
    rw [fneg_nan hn, e, e2]; decide +kernel
/-! scales -/
theorem feq_zero_neg {f : Nat} (hn : isN f = false) : feq (fneg f) 0 = feq f 0 := by
  rw [feq_zero (by rw [isN_neg, hn]), feq_zero hn, rung_neg' hn]
theorem isInf_neg (f : Nat) : isInf (fneg f) 0 = isInf f 0 := by unfold isInf; simp [fabs_neg]
theorem isInf0 {f : Nat} (hn : isN f = false) : isInf f 0 = !fin f := by
  unfold isInf
  rw [if_pos rfl, ← fin_abs, flt_eq, fle_eq, isN_abs, isN_max, hn]
  rw [Bool.eq_iff_iff]; simp
theorem tiny_fin {f : Nat} (h : flt (fabs f) 4503599627370496 = true) : fin f = true := by
  have := (sval_small h (by decide +kernel) (by decide +kernel)).1
  unfold fin; simp; exact Nat.lt_of_lt_of_le this (by decide +kernel)
theorem normF_turn {f : Nat} (hl : f < 18446744073709551616) : normF (fneg f) = fneg (normF f) := by
  unfold normF
  rw [fabs_neg]
  split
  · rename_i h; exact fmul_turn hl (tiny_fin h) (by decide +kernel)
  · rfl
theorem normE_turn (f : Nat) : normE (fneg f) = normE f := by unfold normE; rw [fabs_neg]
theorem normF_lt {f : Nat} (hl : f < 18446744073709551616) : normF f < 18446744073709551616 := by
  unfold normF; split
  · exact canon_map_lt _
  · exact hl
theorem exp_field {f : Nat} (hl : f < 18446744073709551616) : f / 4503599627370496 % 2048 = rung f / 4503599627370496 := by unfold rung; omega
theorem mant_field (f : Nat) : f % 4503599627370496 = rung f % 4503599627370496 := by unfold rung; omega
theorem sign_field {f : Nat} (hl : f < 18446744073709551616) : f / 9223372036854775808 * 9223372036854775808 = if sgn f then 9223372036854775808 else 0 := by
  unfold sgn
  have h : f / 9223372036854775808 = 0 ∨ f / 9223372036854775808 = 1 := by omega
  rcases h with h | h <;> rw [h] <;> rfl
theorem expOf_turn {f : Nat} (hl : f < 18446744073709551616) (hn : isN f = false) (n : Int) : expOf (fneg f) n = expOf f n := by
  unfold expOf
  rw [normE_turn, normF_turn hl, exp_field (fneg_lt (normF_lt hl)), exp_field (normF_lt hl), rung_neg' (normF_notN hn)]
theorem fields_wd {g : Nat} (hl : g < 18446744073709551616) (e : Nat) (he : e < 2047) : g / 9223372036854775808 * 9223372036854775808 + e * 4503599627370496 + g % 4503599627370496 = wd (sgn g) (e * 4503599627370496 + rung g % 4503599627370496) := by
  rw [sign_field hl, mant_field]
  unfold wd
  split <;> omega
theorem fields_fin {s : Bool} {e m : Nat} (he : e < 2047) : fin (wd s (e * 4503599627370496 + m % 4503599627370496)) = true := by
  unfold fin; rw [wd_rung (by omega)]; simp; omega
theorem mval_pow {c : Nat} (h : ¬ c < 4503599627370496) (h2 : c % 4503599627370496 = 0) : mval c = 4503599627370496 * 2 ^ (c / 4503599627370496 - 1) := by
  unfold mval; rw [if_neg h, h2]
theorem rndQ_cancel (m k : Nat) : rndQ (m * 2 ^ k) k = rndN m := by
  have := rndQ_scale m 0 k
  rw [Nat.zero_add] at this
  exact this
theorem normF_tiny {f : Nat} (hs : flt (fabs f) 4503599627370496 = true) : normF f = wd (sgn f) (rndN (rung f * 4503599627370496)) ∧ rung f < 4503599627370496 := by
  have h3 := (sval_small hs (by decide +kernel) (by decide +kernel)).1
  have h4 : rung f < 4503599627370496 := Nat.lt_of_lt_of_le h3 (by decide +kernel)
  have h5 : mval (rung f) = rung f := by unfold mval; rw [if_pos h4]
  refine ⟨?_, h4⟩
  unfold normF
  rw [if_pos hs, fmul_fin (tiny_fin hs) (by decide +kernel), h5, show rung 4841369599423283200 = 4841369599423283200 by decide +kernel]
  rw [mval_pow (by decide) (by decide)]
  have hk : 1074 = 4841369599423283200 / 4503599627370496 - 1 := by decide
  rw [hk]
  generalize 4841369599423283200 / 4503599627370496 - 1 = k
  rw [← Nat.mul_assoc, rndQ_cancel, show sgn 4841369599423283200 = false by decide +kernel, Bool.xor_false]
theorem rnd_pos {m : Nat} (h : m ≠ 0) : rndN m ≠ 0 := by
  unfold rndN rndQ
  rw [if_neg h]
  have h10 := Nat.log2_self_le h
  have h11 : m / 2 ^ (0 + (m.log2 - 52 - 0)) ≤ rne m (2 ^ (0 + (m.log2 - 52 - 0))) := by unfold rne; omega
  have h13 : 2 ^ (0 + (m.log2 - 52 - 0)) ≤ 2 ^ m.log2 := Nat.pow_le_pow_right (by decide) (by omega)
  have h12 : 0 < m / 2 ^ (0 + (m.log2 - 52 - 0)) := Nat.div_pos (by omega) (Nat.two_pow_pos _)
  omega
theorem scale_turn {f : Nat} (hl : f < 18446744073709551616) (n : Int) (hf : nrm f = f) : scaleF (fneg f) n = fneg (scaleF f n) := by
  cases hn : isN f
  · unfold scaleF
    rw [feq_zero_neg hn, isInf_neg, isN_neg, hn, expOf_turn hl hn]
    have hg := normF_lt hl
    have hgn := normF_notN hn
    split
    · rfl
    · split
      · rw [normF_turn hl]
        unfold copyF
        rw [sgn_neg hg hgn]
        cases sgn (normF f) <;> decide +kernel
      · split
        · rename_i h1 _ _
          have hz : rung (normF f) ≠ 0 := by
            intro hz
            have h2 : ¬ feq f 0 = true := by intro h; rw [h] at h1; simp at h1
            rw [feq_zero hn] at h2
            simp at h2
            cases hs : flt (fabs f) 4503599627370496
            · unfold normF at hz; rw [hs] at hz; exact h2 hz
            · obtain ⟨e, _⟩ := normF_tiny hs
              rw [e, wd_rung (rndN_le _)] at hz
              exact rnd_pos (Nat.mul_ne_zero h2 (by decide)) hz
          rw [normF_turn hl]
          have hz2 : sval (normF f) ≠ 0 := by intro h; exact hz ((sval_zero_iff _).1 h)
          rw [flt_eq, flt_eq, isN_neg, hgn, show isN 0 = false by decide +kernel, sval_zero, sval_neg hg hgn]
          simp only [Bool.not_false, Bool.true_and, decide_eq_true_eq]
          by_cases h3 : sval (normF f) < 0
          · rw [if_neg (by omega), if_pos h3]; decide +kernel
          · rw [if_pos (by omega), if_neg h3]; decide +kernel
        · rw [normF_turn hl]
          split
          · rw [fields_wd (fneg_lt hg) _ (by omega), fields_wd hg _ (by omega), sgn_neg hg hgn, rung_neg' hgn]
            have hff : fin (wd (sgn (normF f)) ((expOf f n + 1076).toNat * 4503599627370496 + rung (normF f) % 4503599627370496)) = true := fields_fin (by omega)
            rw [← fmul_turn2 (wd_lt (by omega)) hff (by decide +kernel), wd_neg (by omega)]
          · rw [fields_wd (fneg_lt hg) _ (by omega), fields_wd hg _ (by omega), sgn_neg hg hgn, rung_neg' hgn]
            have hff : fin (wd (sgn (normF f)) ((expOf f n + 1023).toNat * 4503599627370496 + rung (normF f) % 4503599627370496)) = true := fields_fin (by omega)
            rw [← fmul_turn2 (wd_lt (by omega)) hff (by decide +kernel), wd_neg (by omega)]
  · rw [nrm_of hn] at hf
    subst hf
    have e : scaleF nanB n = nanB := by unfold scaleF; rw [isN_nanB]; simp
    rw [show fneg nanB = nanB by decide +kernel, e]; decide +kernel
end Go.Proofs.YtndknkdfbjfjcaaDoor
