/- Half sums of exponentials: all the law's ways. No text of the program. -/
import Derived.Test.YtcfkhhnkboealaaDoorHd
namespace Go.Proofs.YtcfkhhnkboealaaDoor
open Go.RowKit
set_option linter.unusedVariables false
set_option linter.unusedSimpArgs false
set_option maxRecDepth 100000
set_option maxHeartbeats 4000000
open Turns Sizes
theorem read_one : Ieee.double.read 4607182418800017408 = .number false 4503599627370496 (-1074 + ((1022 : Nat) : Int)) := by decide +kernel
theorem fdiv_one {f : Nat} (hl : f < 18446744073709551616) (hf : Proofs.YtcfkhhnkboealaaDoor.fin f = true) : fdiv f 4607182418800017408 = f := by
  obtain ⟨m1, k1, hr1, hm1, hb1, hk1⟩ := read_number (fin_rung hf)
  have hl1 : m1.log2 ≤ 52 := by
    by_cases h : m1 = 0
    · subst h; decide
    · have := (Nat.log2_lt h (k := 53)).2 (by omega); omega
  obtain ⟨s, hs⟩ : ∃ s, 54 + (4503599627370496 : Nat).log2 - m1.log2 = s + 52 := ⟨54 - m1.log2, by rw [show (4503599627370496 : Nat).log2 = 52 by decide]; omega⟩
  rw [div_def, hr1, read_one]
  have hfb : Ieee.double.fractionBits + 2 = 54 := rfl
  rw [hfb]
  simp only [Ieee.Datum.quotient]
  rw [if_neg (by decide)]
  simp only [Option.map_some, canon]
  rw [hs, Nat.shiftLeft_eq]
  have hd : m1 * 2 ^ (s + 52) = m1 * 2 ^ s * 4503599627370496 := by rw [Nat.pow_add, Nat.mul_assoc]
  rw [hd, Nat.mul_div_cancel _ (by decide), Nat.mul_mod_left]
  show Ieee.double.nearest _ _ _ = _
  rw [nearest_any _ _ (e1 + k1) (1022 + (s + 52) + 1) _ (by rw [e1_eq]; omega), word_eq]
  have e : (2 * (m1 * 2 ^ s) + (0 != 0).toNat) * 2 ^ (e1 + k1) = m1 * 2 ^ k1 * 2 ^ (1022 + (s + 52) + 1) := by
    have h0 : (0 != 0).toNat = 0 := by decide
    rw [h0, Nat.add_zero, e1_eq]
    obtain ⟨q, hq⟩ : ∃ q, q = 1074 := ⟨_, rfl⟩
    rw [← hq, show 1022 + (s + 52) + 1 = s + q + 1 by omega, Nat.pow_add 2 q k1, Nat.pow_add 2 (s + q) 1, Nat.pow_add 2 s q]
    generalize 2 ^ q = X
    generalize 2 ^ s = Y
    generalize 2 ^ k1 = Z
    rw [Nat.pow_one]
    simp [Nat.mul_comm, Nat.mul_left_comm, Nat.mul_assoc]
  rw [e, rndQ_cancel, ← hm1, rnd_mval (fin_rung hf)]
  have : (sgn f ^^ false) = sgn f := Bool.xor_false _
  rw [this]
  exact (num_wd hl).symm
/-- twice a small word, halved again. -/
theorem twice_half {b : Nat} (h : b < 9214364837600034816) : fmul (fadd b b) 4602678819172646912 = b := by
  obtain ⟨d, hd, hm⟩ : ∃ d, d < 9218868437227405312 ∧ mval d = 2 * mval b := by
    rcases Nat.lt_or_ge b 4503599627370496 with q | q
    · refine ⟨2 * b, by omega, ?_⟩
      unfold mval
      rw [if_pos q]
      rcases Nat.lt_or_ge (2 * b) 4503599627370496 with r | r
      · rw [if_pos r]
      · rw [if_neg (by omega), show 2 * b / 4503599627370496 - 1 = 0 by omega]
        omega
    · refine ⟨b + 4503599627370496, by omega, ?_⟩
      obtain ⟨L, hL⟩ : ∃ L, b / 4503599627370496 = L + 1 := ⟨b / 4503599627370496 - 1, by omega⟩
      have hL2 : (b + 4503599627370496) / 4503599627370496 = L + 2 := by omega
      unfold mval
      rw [if_neg (by omega), if_neg (by omega), hL, hL2, show (b + 4503599627370496) % 4503599627370496 = b % 4503599627370496 by omega, show L + 2 - 1 = (L + 1 - 1) + 1 by omega, Nat.pow_succ]
      generalize 2 ^ (L + 1 - 1) = X
      rw [← Nat.mul_assoc, Nat.mul_comm]
  have hb : b < 9218868437227405312 := by omega
  have e1' : fadd b b = d := by
    rw [add_words hb hb, show mval b + mval b = mval d by omega]
    exact rnd_mval hd
  rw [e1']
  obtain ⟨a1, a2, a3, _, _, _⟩ := word_facts hd
  obtain ⟨k, hk, e⟩ : ∃ k, k = 1073 ∧ mval (rung 4602678819172646912) = 2 ^ k := by refine ⟨1073, rfl, ?_⟩; decide +kernel
  rw [fmul_fin a1 (by decide +kernel), a3, hm, e, show 2 * mval b * 2 ^ k = mval b * 2 ^ (k + 1) by rw [Nat.pow_succ, Nat.mul_comm 2, Nat.mul_assoc, Nat.mul_comm 2]]
  rw [show (1074 : Nat) = k + 1 by omega, rndQ_cancel, rnd_mval hb, a2, show sgn 4602678819172646912 = false by decide +kernel]
  exact wd_false' _
theorem signed_word {W f : Nat} (hW : W < 9218868437227405312 ∨ W = 9218868437227405312) (hn : isN f = false) : signed W f = wd (sgn f) W := by
  have hN : isN W = false := by
    rcases hW with h | h
    · exact (word_facts h).2.2.2.1
    · rw [h]; decide +kernel
  have hr : rung W = W := rung_pos (by omega)
  unfold signed minus wd
  rw [hN, hn, hr, if_neg (by decide)]
  cases sgn f <;> simp <;> omega
theorem sinhF_of {f : Nat} (hn : isN f = false) : sinhF f = signed (sinhH (lessE (rung f))) f := by
  unfold sinhF
  rw [hn, if_neg (by decide), fabs_of hn]
theorem coshF_turn (f : Nat) (hl : f < 18446744073709551616) (hn : isN f = false) : coshF (fneg f) = coshF f := by
  unfold coshF
  rw [fneg_neg hl (nrm_of_not hn), fadd_comm]
theorem coshF_of {f : Nat} (hl : f < 18446744073709551616) (hn : isN f = false) : coshF f = coshF (rung f) := by
  cases h : sgn f
  · have e := num_wd hl
    rw [h] at e
    rw [wd_false'] at e
    rw [← e]
  · have h1 := coshF_turn f hl hn
    have e : fneg f = rung f := by
      rw [fneg_of hl hn, h]; rfl
    rw [← h1, e]
theorem sinhH_fin {L : Nat} (h : isInf L 1 = false) : sinhH L = fmul (fadd L (fdiv L (fadd L 4607182418800017408))) 4602678819172646912 := by
  unfold sinhH
  rw [h, if_neg (by decide)]
/-- both, for a word without sign whose exponential is finite. -/
theorem half_words {b : Nat} {a v w : Rat} (hb : V b a) (h0 : pw (-200) ≤ a) (ha : a ≤ 750) (hv : Rl v (XX a) (tw 300)) (hw : Rl w (XX (-a)) (tw 300)) (hE : expF b < 9218868437227405312) :
    (∃ c, V (coshF b) c ∧ coshF b < 9218868437227405312 ∧ ab (c - (v + w) * (1 / 2)) ≤ 1595 / 100 * gapq (coshF b)) ∧
    ∃ s, V (sinhH (lessE b)) s ∧ 0 < s ∧ sinhH (lessE b) < 9218868437227405312 ∧ ab (s - (v - w) * (1 / 2)) ≤ 1595 / 100 * gapq (sinhH (lessE b)) := by
  have ap : 0 < a := by have := pw_pos (-200); grind
  have haa : ab a = a := ab_pos (Rat.le_of_lt ap)
  have hvw := inv_near (by rw [haa]; exact ha) hv hw
  have t29 : tw 290 ≤ 1 / 1000000 * pw (-200) ∧ tw 290 ≤ 1 / 1000000 := by decide +kernel
  have hge := XX_ge (Rat.le_of_lt ap)
  have hv2 := rl_pos hv (by decide +kernel)
  have hw2 := rl_pos hw (by decide +kernel)
  have t3 : tw 300 ≤ 1 / 1000000 * pw (-200) ∧ tw 300 ≤ 1 / 1000000 := by decide +kernel
  have hv1 : 1 + 999 / 1000 * a ≤ v := by
    have k := Rat.mul_le_mul_of_nonneg_left hge (show 0 ≤ 1 - tw 300 by grind)
    have k2 := Rat.mul_le_mul_of_nonneg_right t3.2 (show 0 ≤ a by grind)
    grind
  have hvw' := ab_le.1 hvw
  have hw1 : w ≤ 1 := by
    rcases (show w ≤ 1 ∨ 1 < w by grind) with q | q
    · exact q
    · exfalso
      have k := mul_mono (show 0 ≤ 1 + 999 / 1000 * a by grind) hv1 (by decide +kernel : (0 : Rat) ≤ 1) (Rat.le_of_lt q)
      grind
  have hvw3 : 3 / 2 ≤ v + w := by
    rcases (show 3 / 2 ≤ v ∨ v < 3 / 2 by grind) with q | q
    · grind
    · have k := Rat.mul_le_mul_of_nonneg_right (Rat.le_of_lt q) (Rat.le_of_lt hw2.1)
      grind
  have hX := exp_law hb (by rw [haa]; exact ha) (rl_mono hv (by decide +kernel))
  have hY := exp_law hb.neg (by rw [ab_neg, haa]; exact ha) (rl_mono hw (by decide +kernel))
  obtain ⟨e, e1, e2⟩ : ∃ e, V (expF b) e ∧ 101 / 100 * ab (e - v) ≤ 4 * gapq (expF b) := by
    rcases hX with ⟨c, c1, c2, c3, c4, _⟩ | ⟨c1, _⟩
    · rw [(word_facts c3).2.2.1] at c4
      exact ⟨c, c1, c4⟩
    · rw [c1] at hE
      exact absurd hE (by decide)
  obtain ⟨f, f1, f0, f2⟩ : ∃ f, V (expF (fneg b)) f ∧ expF (fneg b) < 9218868437227405312 ∧ 101 / 100 * ab (f - w) ≤ 4 * gapq (expF (fneg b)) := by
    rcases hY with ⟨c, c1, c2, c3, c4, _⟩ | ⟨c1, c2⟩
    · rw [(word_facts c3).2.2.1] at c4
      exact ⟨c, c1, c3, c4⟩
    · exfalso
      have k : 2 ≤ pw 1024 := by
        have : pw 1 ≤ pw 1024 := pw_mono (by decide)
        have e : pw 1 = 2 := by decide +kernel
        grind
      have u1 : 99 / 100 ≤ 1 - 498 / 100 * uu := by decide +kernel
      have := mul_mono (by decide +kernel : (0 : Rat) ≤ 2) k (by decide +kernel : (0 : Rat) ≤ 99 / 100) u1
      grind
  constructor
  · obtain ⟨c, c1, c2, c3⟩ := cosh_near e1 hE f1 f0 (by grind) (Rat.le_of_lt hw2.1) (by grind) hvw3 e2 f2
    refine ⟨c, c1, c2, Rat.le_trans c3 ?_⟩
    have := gap_pos (fmul (fadd (expF b) (expF (fneg b))) 4602678819172646912)
    show 159 / 10 * gapq (fmul (fadd (expF b) (expF (fneg b))) 4602678819172646912) ≤ 1595 / 100 * gapq (fmul (fadd (expF b) (expF (fneg b))) 4602678819172646912)
    grind
  · have fin : ∀ L : Nat, Proofs.YtcfkhhnkboealaaDoor.fin L = true → L < 18446744073709551616 → isInf L 1 = false := by
      intro L h1 h2
      cases k : isInf L 1
      · rfl
      · exact (inf_not k h2 h1).elim
    rcases less_cases hb h0 ha hv hE with ⟨lv, l, l1, l2⟩ | ⟨l1, e', l2, l3, l4⟩
    · rw [sinhH_fin (fin _ l1.fin l1.lt)]
      refine sinh_first l1 h0 ha hv hvw l2 ?_
      have := (ab_le.1 l2).2
      have k := Rat.mul_le_mul_of_nonneg_right (show uu ≤ 1 / 1000000 by decide +kernel) (Rat.le_of_lt ap)
      grind
    · rcases Nat.lt_or_ge (expF b / 4503599627370496) 1078 with q | q
      · obtain ⟨L, s, r1, r2, r3, r4, r5, r6⟩ := sinh_more l2 hE q l1 hvw l4
        rw [l3, ← r1]
        have hLl : L < 18446744073709551616 := by
          obtain ⟨l, hl, _⟩ := l2.sub V.unit1 (by
            have hm := mid_val l2 hE q
            have hB := BG_big
            have := (posV l2 hE).1
            rw [ab_le]; clear hvw l4 e2; generalize BG = B at *; constructor <;> grind)
          rw [r1]; exact hl.lt
        rw [sinhH_fin (fin _ r2 hLl)]
        exact ⟨s, r3, r4, r5, r6⟩
      · rw [(posV l2 hE).2.1] at l4
        obtain ⟨L, s, r1, r2, r3, r4, r5, r6⟩ := sinh_top hE q (Rat.le_of_lt hw2.1) hw1 l4
        rw [l3, ← r1]
        have hLl : L < 18446744073709551616 := by
          have := (top_less (by omega) hE l4).2.1
          rw [← r1] at this
          omega
        rw [sinhH_fin (fin _ r2 hLl)]
        exact ⟨s, r3, r4, r5, r6⟩
end Go.Proofs.YtcfkhhnkboealaaDoor
