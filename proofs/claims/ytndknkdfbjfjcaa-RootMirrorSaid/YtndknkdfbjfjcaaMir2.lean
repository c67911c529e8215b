/- Quarters, sines, cosines and places of turned floats. No condition. -/
import Derived.Test.YtndknkdfbjfjcaaMir
namespace Go.Proofs.Ytndknkdfbjfjcaa
open Go.RowKit
set_option linter.unusedVariables false
set_option linter.unusedSimpArgs false
set_option maxRecDepth 100000
set_option maxHeartbeats 1000000

theorem aux_div {a P V G : Nat} (h : a ≤ P * V) (h2 : 2 * V ≤ G) : a * V * 1048577 ≤ P * V * G * 1048576 := by
  have h1 : a * V * 1048577 ≤ P * V * V * 1048577 := Nat.mul_le_mul_right _ (Nat.mul_le_mul_right _ h)
  have h3 : P * V * (2 * V) * 1048576 ≤ P * V * G * 1048576 := Nat.mul_le_mul_right _ (Nat.mul_le_mul_left _ h2)
  have h4 : P * V * (2 * V) * 1048576 = P * V * V * (2 * 1048576) := by ac_rfl
  rw [h4] at h3
  exact Nat.le_trans h1 (Nat.le_trans (Nat.mul_le_mul_left _ (by decide)) h3)
theorem Bd.div2 {f g k : Nat} (h : Bd f k) (hg : Proofs.Ytndknkdfbjfjcaa.fin g = true) (h2 : 2 * U ≤ mval (rung g)) (hk : k ≤ 900) : Bd (fdiv f g) k := by
  obtain ⟨c1, c2⟩ := rnd_pow hk
  have hg0 : rung g ≠ 0 := by
    intro h0
    rw [h0, show mval 0 = 0 by decide +kernel] at h2
    have := U_pos
    omega
  obtain ⟨r, e, hr⟩ := fdiv_le h.fin hg hg0 c1 (by rw [c2]; exact aux_div h.le h2)
  rw [e]
  have hr2 : r ≤ 9218868437227405312 := by omega
  refine ⟨wd_lt hr2, ?_, ?_⟩
  · unfold Proofs.Ytndknkdfbjfjcaa.fin; rw [wd_rung hr2]; simp; omega
  · rw [wd_rung hr2]; exact Nat.le_trans (mval_le_iff.2 hr) (Nat.le_of_eq c2)
theorem sin_c : ∀ j : Nat, j < 9 → Proofs.Ytndknkdfbjfjcaa.fin (ofInt (2 * (9 - (j : Int)) * (2 * (9 - (j : Int)) + 1))) = true ∧ 2 * U ≤ mval (rung (ofInt (2 * (9 - (j : Int)) * (2 * (9 - (j : Int)) + 1)))) := by decide +kernel
theorem sin_bd {z : Nat} (hz : Bd z 52) : ∀ j : Nat, j ≤ 9 → Bd (sinSeq z j) (53 * j)
  | 0, _ => Bd.mk_c (c := 4607182418800017408) (k := 0) (by decide +kernel)
  | j + 1, h => by
    have h1 := sin_bd hz j (by omega)
    obtain ⟨a, b⟩ := sin_c j (by omega)
    have h2 := (hz.div2 a b (by decide)).mul h1 (by omega)
    have h3 : Bd 4607182418800017408 (52 + 53 * j) := (Bd.mk_c (c := 4607182418800017408) (k := 0) (by decide +kernel)).mono (by omega)
    have h4 := h3.sub h2 (by omega)
    exact h4.mono (by omega)
theorem sq_turn {y : Nat} (hl : y < 18446744073709551616) (hf : Proofs.Ytndknkdfbjfjcaa.fin y = true) : fmul (fneg y) (fneg y) = fmul y y := by
  rw [fmul_turn hl hf (by rw [fin_neg]; exact hf), fmul_turn2 hl hf hf, fneg_fneg (f := fmul y y) (canon_map_lt _) (nrm_fmul _ _)]
theorem sine_turn {y : Nat} (h : Bd y 26) : sineF (fneg y) = fneg (sineF y) := by
  unfold sineF
  rw [sq_turn h.lt h.fin, fmul_turn h.lt h.fin (sin_bd (h.mul h (by decide)) 9 (by decide)).fin]
theorem cos_turn {y : Nat} (h : Bd y 26) : cosF (fneg y) = cosF y := by
  unfold cosF; rw [sq_turn h.lt h.fin]
theorem fit_neg (f : Nat) : fit (fneg f) = fit f := by unfold fit within; rw [fabs_neg]
theorem qG_bd {f : Nat} (hl : f < 18446744073709551616) (h : fit f = true) : Bd (fmul f 4603909380684499075) 20 := (fit_bd hl h).mul (Bd.mk_c (k := 0) (by decide +kernel)) (by decide)
theorem qM_turn {f : Nat} (hl : f < 18446744073709551616) (h : fit f = true) : quarterM (fneg f) = fneg (quarterM f) := by
  unfold quarterM
  rw [fmul_turn hl (fit_bd hl h).fin (by decide +kernel), whole_turn (qG_bd hl h).lt]
theorem closed5 : 2 * mval (fmul 4602678819172646912 4603909380684499075) < U := by decide +kernel
theorem quarterX_fit {f : Nat} (hl : f < 18446744073709551616) (h : fit f = true) : quarterX (fneg f) = fneg (quarterX f) ∧ Bd (quarterX f) 26 := by
  unfold quarterX
  rw [fit_neg, h, if_pos rfl, if_pos rfl, qM_turn hl h, feq_zero_neg (quarterM_bd hl h).notN]
  cases hz : feq (quarterM f) 0
  · rw [if_neg (by simp), if_neg (by simp)]
    have hg := qG_bd hl h
    have hM2 : wholeN (rung (fmul f 4603909380684499075)) ≤ 1048576 := (hg.whole (by decide)).2
    have hrg : rung (quarterM f) = rndN (wholeN (rung (fmul f 4603909380684499075)) * U) := by
      unfold quarterM
      rw [whole_eq hg.fin, wd_rung (rndN_le _)]
    have h0 : wholeN (rung (fmul f 4603909380684499075)) ≠ 0 := by
      intro h0
      rw [h0, Nat.zero_mul] at hrg
      rw [feq_zero (quarterM_bd hl h).notN, hrg] at hz
      exact absurd hz (by decide +kernel)
    have hbig : 4602678819172646912 ≤ rung f := by
      apply Nat.le_of_not_lt
      intro hlt
      obtain ⟨_, b⟩ := rungMul (x := f) (y := 4603909380684499075) (Nat.le_of_lt hlt) (G := 4603909380684499075) (by decide +kernel) (by decide) (by decide)
      apply h0
      unfold wholeN
      exact rne_small (Nat.lt_of_le_of_lt (Nat.mul_le_mul_left 2 (mval_le_iff.2 b)) closed5)
    refine ⟨less_turn (fit_bd hl h) (quarterM_bd hl h) (by rw [hrg]; exact (rnd_whole (by omega)).2) h0 hM2 hbig, ?_⟩
    exact less_bd (fit_bd hl h) (quarterM_bd hl h) (Bd.mk_c (by decide +kernel))
  · rw [if_pos rfl, if_pos rfl]
    exact ⟨rfl, (fit_bd hl h).mono (by decide)⟩
theorem wInt_turn {m : Nat} (hl : m < 18446744073709551616) (hn : isN m = false) : wInt (fneg m) = -wInt m := by
  unfold wInt
  rw [rung_neg' hn, sgn_neg hl hn]
  cases sgn m <;> simp
theorem neg_nan : fneg nanB = nanB := by decide +kernel
theorem quarterX_turn {f : Nat} (hl : f < 18446744073709551616) : quarterX (fneg f) = fneg (quarterX f) := by
  cases h : fit f
  · unfold quarterX
    rw [fit_neg, h, if_neg (by simp), if_neg (by simp), neg_nan]
  · exact (quarterX_fit hl h).1
theorem quarterN_turn {f : Nat} (hl : f < 18446744073709551616) : quarterN (fneg f) = (4 - quarterN f) % 4 := by
  unfold quarterN
  rw [fit_neg]
  cases h : fit f
  · rfl
  · rw [if_pos rfl, if_pos rfl, qM_turn hl h, feq_zero_neg (quarterM_bd hl h).notN, wInt_turn (quarterM_bd hl h).lt (quarterM_bd hl h).notN]
    cases feq (quarterM f) 0
    · rw [if_neg (by simp), if_neg (by simp)]; omega
    · rfl
theorem turn_turn {f : Nat} (hl : f < 18446744073709551616) : turnS (fneg f) = fneg (turnS f) ∧ turnC (fneg f) = turnC f := by
  cases h : fit f
  · obtain ⟨a, b⟩ := turn_unfit h
    obtain ⟨c, d⟩ := turn_unfit (f := fneg f) (by rw [fit_neg]; exact h)
    rw [a, b, c, d, neg_nan]; exact ⟨rfl, rfl⟩
  · obtain ⟨hx, hb⟩ := quarterX_fit hl h
    have hs := sine_turn hb
    have hc := cos_turn hb
    have hn := quarterN_turn hl
    unfold turnS turnC
    rw [hx, hs, hc, hn]
    have s2 := fneg_fneg (sineF_lt (quarterX f)) (sineF_nrm _)
    have c2 : fneg (fneg (cosF (quarterX f))) = cosF (quarterX f) := fneg_fneg (canon_map_lt _) (nrm_fsub _ _)
    rcases quarterN_cases f with e | e | e | e <;> rw [e]
    · exact ⟨rfl, rfl⟩
    · exact ⟨rfl, rfl⟩
    · exact ⟨rfl, rfl⟩
    · refine ⟨?_, ?_⟩
      · exact c2.symm
      · exact s2
theorem signed_wd2 {b y : Nat} (hb : b < 9218868437227405312) (hy : isN y = false) : signed b y = wd (sgn y) b := by
  unfold signed minus
  rw [fin_notN (p_fin hb), hy, if_neg (show ¬ (false = true) by decide), p_rung hb]
  cases sgn y
  · rfl
  · rw [if_pos (by simp)]; unfold wd; rw [if_pos rfl, Nat.add_comm]
theorem of_turn {y x : Nat} (hl : y < 18446744073709551616) (hy : isN y = false) (hx : isN x = false) : ofF (fneg y) x = fneg (ofF y x) := by
  have h := ofAbs_pos hy hx
  have d7 := closed4.2.2.2.2.2.2.1
  unfold ofF
  rw [isN_neg, hy, hx, if_neg (show ¬ ((false || false) = true) by decide), if_neg (show ¬ ((false || false) = true) by decide)]
  have e : ofAbs (fneg y) x = ofAbs y x := by unfold ofAbs; rw [fabs_neg]
  rw [e]
  generalize ofAbs y x = b at h
  have hb : b < 9218868437227405312 := by omega
  rw [signed_wd2 hb hy, signed_wd2 hb (by rw [isN_neg]; exact hy), sgn_neg hl hy, wd_neg (by omega)]
end Go.Proofs.Ytndknkdfbjfjcaa
