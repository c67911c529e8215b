/- Half the difference of exponentials, by value; where they are infinite. No text of the program. -/
import Derived.Test.YtcfkhhnkboealaaDoorHb
namespace Go.Proofs.YtcfkhhnkboealaaDoor
open Go.RowKit
set_option linter.unusedVariables false
set_option linter.unusedSimpArgs false
set_option maxRecDepth 100000
set_option maxHeartbeats 4000000
open Turns Sizes
theorem et_200 : et ≤ 1 / 1000000 * (uu * pw (-200)) := by
  have x1 : et ≤ pw (-300) := by
    have := et_two
    have h3 : pw (-(e1 : Int)) ≤ pw (-300) := pw_mono (by rw [e1_eq]; decide)
    have := et_pos
    grind
  have x2 : pw (-300) ≤ 1 / 1000000 * (uu * pw (-200)) := by decide +kernel
  exact Rat.le_trans x1 x2
theorem less_cases {b : Nat} {a v : Rat} (hb : V b a) (h0 : pw (-200) ≤ a) (ha : a ≤ 750) (hv : Rl v (XX a) (tw 300)) (hE : expF b < 9218868437227405312) :
    (v ≤ 2 ∧ ∃ l, V (lessE b) l ∧ ab (l - (v - 1)) ≤ 35 / 10 * (uu * a)) ∨
    (139 / 100 ≤ v ∧ ∃ e, V (expF b) e ∧ lessE b = fsub (expF b) 4607182418800017408 ∧ 101 / 100 * ab (e - v) ≤ 4 * gapq (expF b)) := by
  have ap : 0 < a := by have := pw_pos (-200); grind
  have haa : ab a = a := ab_pos (Rat.le_of_lt ap)
  have hX := exp_law hb (by rw [haa]; exact ha) (rl_mono hv (by decide +kernel))
  obtain ⟨n, r, n1, n2, n3, n4, _, n6, _⟩ := exp_rest hb (by rw [haa]; exact Rat.le_trans ha (by decide +kernel))
  have l1 : 69 / 100 ≤ L2 := by decide +kernel
  have k1 : flt 4649454594685214392 b = false := by
    cases k : flt 4649454594685214392 b
    · rfl
    · exfalso
      have hi : expF b = infP := by unfold expF; rw [fin_notN hb.fin, if_neg (by decide), k, if_pos rfl]
      rw [hi] at hE
      exact absurd hE (by decide)
  have hl : lessE b = if feq (expN b) 0 then fmul b (riseSeq b 12) else fsub (expF b) 4607182418800017408 := by
    unfold lessE
    rw [fin_notN hb.fin, if_neg (by decide), k1, if_neg (by decide)]
  rw [feq_zero (fin_notN n1.fin)] at hl
  by_cases hz : rung (expN b) = 0
  · rw [decide_eq_true hz, if_pos rfl] at hl
    left
    have hn : (n : Rat) = 0 := by
      have hs := n1.size
      rw [hz, mval_zero] at hs
      have e : ((0 : Nat) : Rat) / (U : Rat) = 0 := by
        have a := div_self_mul ((0 : Nat) : Rat) UQ_ne
        have := UQ_ne
        have e0 : ((0 : Nat) : Rat) = 0 := rfl
        rw [e0] at a ⊢
        grind
      rw [e] at hs
      have := (ab_le.1 (show ab (n : Rat) ≤ 0 by grind))
      grind
    rw [hn, Rat.zero_mul, show a - 0 = a by grind] at n6
    obtain ⟨l, q1, q2, _⟩ := less_sum hb (by grind) (by rw [haa]; exact h0) hv
    rw [hl]
    rw [haa] at q2
    refine ⟨?_, l, q1, q2⟩
    have x1 := rl_trans hv (XX_TT (r := a) (by rw [haa]; grind)) (Rat.le_of_lt (tw_pos _))
    have x2 := (rl_pos (rl_mono x1 (e := 1 / 1000000) (by decide +kernel)) (by decide +kernel)).2.2
    have x3 := (TT_range (p := a) (by grind)).2
    grind
  · rw [decide_eq_false hz, if_neg (by decide)] at hl
    right
    have hn1 : 1 ≤ n := by
      rcases Int.lt_trichotomy n 0 with h | h | h
      · exfalso
        have c1 := cast_le'.2 (show n ≤ -1 by omega)
        have c2 : ((-1 : Int) : Rat) = -1 := by decide +kernel
        rw [c2] at c1
        have c3 := Rat.mul_le_mul_of_nonneg_right c1 (show 0 ≤ L2 by grind)
        have := (ab_le.1 n6).2
        generalize (n : Rat) * L2 = Y at *
        grind
      · exfalso
        rw [h] at n1
        exact hz (rung_zero (by have e : ((0 : Int) : Rat) = 0 := rfl
                                rw [e] at n1; exact n1))
      · exact h
    obtain ⟨n', t, P, p1, p2, p3, p4, p5, p6, p7, p8, p9⟩ := exp_core hb (by rw [haa]; exact Rat.le_trans ha (by decide +kernel))
    have hnn : n' = n := by rw [← p1, n2]
    subst hnn
    have hP : 2 ≤ pw n' := by
      have : pw 1 ≤ pw n' := pw_mono hn1
      have e : pw 1 = 2 := by decide +kernel
      grind
    have hPP : 14 / 10 ≤ pw n' * P := by
      have := mul_mono (by decide +kernel : (0 : Rat) ≤ 2) hP (by decide +kernel : (0 : Rat) ≤ 7 / 10) p7
      grind
    have hv2 := rl_trans hv p6 (Rat.le_of_lt (tw_pos _))
    have hv3 := (rl_pos (rl_mono hv2 (e := 1 / 1000000) (by decide +kernel)) (by decide +kernel)).2.1
    refine ⟨by grind, ?_⟩
    rcases hX with ⟨c, c1, c2, c3, c4, _⟩ | ⟨c1, _⟩
    · rw [(word_facts c3).2.2.1] at c4
      exact ⟨c, c1, hl, c4⟩
    · rw [c1] at hE
      exact absurd hE (by decide)
theorem sinh_chain {L : Nat} {l : Rat} (hL : V L l) (h0 : 0 < l) (h1 : l ≤ 1152921504606846976) :
    ∃ p q t s, V (fmul (fadd L (fdiv L (fadd L 4607182418800017408))) 4602678819172646912) s ∧ ab (p - (l + 1)) ≤ uu * ab (l + 1) ∧ ab (q - l / p) ≤ uu * ab (l / p) + et ∧ ab (t - (l + q)) ≤ uu * ab (l + q) ∧ ab (s - t * (1 / 2)) ≤ uu * ab (t * (1 / 2)) + et := by
  have hu : 0 < uu ∧ uu ≤ 1 / 1000000 := by decide +kernel
  have hB := BG_big
  have het : et ≤ 1 / 1000 := Rat.le_trans et_200 (by decide +kernel)
  obtain ⟨p, hp, g1⟩ := hL.add V.unit1 (by rw [ab_pos (by grind)]; grind)
  have g1' := g1
  rw [ab_pos (show 0 ≤ l + 1 by grind)] at g1'
  have k1 := Rat.mul_le_mul_of_nonneg_right hu.2 (show 0 ≤ l + 1 by grind)
  have p1 := (ab_le.1 g1').1
  have p0 : 0 < p := by grind
  have hlp : 0 ≤ l / p ∧ l / p ≤ 2 := by
    constructor
    · rw [le_div p0]; grind
    · rw [div_le p0]; grind
  obtain ⟨q, hq, g2⟩ := hL.div hp (by grind) (by rw [ab_pos hlp.1]; grind)
  have g2' := g2
  rw [ab_pos hlp.1] at g2'
  have k2 := Rat.mul_le_mul_of_nonneg_right hu.2 hlp.1
  have q1 : ab q ≤ 3 := by
    have := ab_le.1 g2'
    rw [ab_le]; constructor <;> grind
  have a1 := ab_add l q
  rw [ab_pos (Rat.le_of_lt h0)] at a1
  obtain ⟨t, ht, g3⟩ := hL.add hq (by grind)
  have k3 := Rat.mul_le_mul_of_nonneg_right hu.2 (ab_nn (l + q))
  have a2 := ab_tri t (l + q) 0
  rw [show t - 0 = t by grind, show l + q - 0 = l + q by grind] at a2
  have a3 : ab (t * (1 / 2)) ≤ BG := by
    rw [ab_mul, show ab (1 / 2 : Rat) = 1 / 2 by decide +kernel]
    grind
  obtain ⟨s, hs, g4⟩ := ht.mul V.half a3
  exact ⟨p, q, t, s, hs, g1, g2, g3, g4⟩
theorem recip_near {y v w Z : Rat} (hv : 1 ≤ v) (hy : y = v - 1) (hvw : ab (v * w - 1) ≤ tw 290) (hZ : Z * (1 + y) = y) : ab ((y + Z) * (1 / 2) - (v - w) * (1 / 2)) ≤ tw 290 := by
  have e : (w - (1 - Z)) * v = v * w - 1 := by subst hy; grind
  have h1 : ab (w - (1 - Z)) * v ≤ tw 290 := by
    rw [← e, ab_mul, ab_pos (show 0 ≤ v by grind)] at hvw
    exact hvw
  have n := ab_nn (w - (1 - Z))
  have h2 : ab (w - (1 - Z)) ≤ tw 290 := by
    have := Rat.mul_le_mul_of_nonneg_left hv n
    grind
  rw [show (y + Z) * (1 / 2) - (v - w) * (1 / 2) = (1 / 2) * (w - (1 - Z)) by subst hy; grind, ab_mul, show ab (1 / 2 : Rat) = 1 / 2 by decide +kernel]
  grind
theorem sinh_end {W : Nat} {a y v w Z s T : Rat} (hs : V W s) (hl : W < 9218868437227405312) (h0 : pw (-200) ≤ a) (hay : a ≤ 1001 / 1000 * y) (hv : 1 ≤ v) (hy : y = v - 1) (hvw : ab (v * w - 1) ≤ tw 290) (hZ : Z * (1 + y) = y) (hZ0 : 0 < Z) (hT1 : ab (s - (y + Z) * (1 / 2)) ≤ T) (hT2 : T ≤ 1 / 10 * y) (hT : T ≤ 159 / 10 * gapq W) : ab (s - (v - w) * (1 / 2)) ≤ 1595 / 100 * gapq W := by
  have h1 := recip_near hv hy hvw hZ
  have h2 := (unit_least hs hl).1
  have h3 := ab_tri s ((y + Z) * (1 / 2)) ((v - w) * (1 / 2))
  have h4 := (ab_le.1 hT1).1
  have h5 := Rat.mul_le_mul_of_nonneg_left (show 39 / 100 * pw (-200) ≤ s by grind) (show 0 ≤ uu by decide +kernel)
  have h6 : tw 290 ≤ 1 / 100 * (uu * (39 / 100 * pw (-200))) := by decide +kernel
  have h7 : tw 290 ≤ 1 / 100 * gapq W := by
    generalize uu * (39 / 100 * pw (-200)) = X at *
    generalize uu * s = Y at *
    clear h1 h3 h4 hT hT1 hT2 hvw hZ
    grind
  have hg := gap_pos W
  generalize ab (s - (v - w) * (1 / 2)) = A at *
  generalize ab (s - (y + Z) * (1 / 2)) = B at *
  generalize ab ((y + Z) * (1 / 2) - (v - w) * (1 / 2)) = C at *
  clear h5 h6 hvw hZ h2 h4
  grind
/-- where the whole part of the argument is nought. -/
theorem sinh_first {L : Nat} {a v w l : Rat} (hL : V L l) (h0 : pw (-200) ≤ a) (ha : a ≤ 750) (hv : Rl v (XX a) (tw 300)) (hvw : ab (v * w - 1) ≤ tw 290) (hd : ab (l - (v - 1)) ≤ 35 / 10 * (uu * a)) (hl1 : l ≤ 1152921504606846976) :
    ∃ s, V (fmul (fadd L (fdiv L (fadd L 4607182418800017408))) 4602678819172646912) s ∧ 0 < s ∧ fmul (fadd L (fdiv L (fadd L 4607182418800017408))) 4602678819172646912 < 9218868437227405312 ∧ ab (s - (v - w) * (1 / 2)) ≤ 1595 / 100 * gapq (fmul (fadd L (fdiv L (fadd L 4607182418800017408))) 4602678819172646912) := by
  have hu : 0 < uu ∧ uu ≤ 1 / 1000000 := by decide +kernel
  have p2 := pw_pos (-200)
  have hge := XX_ge (a := a) (by grind)
  have hv2 := (rl_pos hv (by decide +kernel)).2.1
  have t3 : tw 300 ≤ 1 / 1000000 * pw (-200) ∧ tw 300 ≤ 1 / 1000000 := by decide +kernel
  have hy : 9999 / 10000 * a ≤ v - 1 := by
    have k := Rat.mul_le_mul_of_nonneg_left hge (show 0 ≤ 1 - tw 300 by grind)
    have k2 := Rat.mul_le_mul_of_nonneg_right t3.2 (show 0 ≤ a by grind)
    grind
  obtain ⟨y, hyd⟩ : ∃ y, y = v - 1 := ⟨_, rfl⟩
  rw [← hyd] at hd hy
  have hy0 : 0 < y := by grind
  have k3 := Rat.mul_le_mul_of_nonneg_right hu.2 (show 0 ≤ a by grind)
  have hd1 : 35 / 10 * (uu * a) ≤ 1 / 1000 * y := by grind
  have hl0 : 0 < l := by have := (ab_le.1 hd).1; grind
  obtain ⟨p, q, t, s, hs, g1, g2, g3, g4⟩ := sinh_chain hL hl0 hl1
  have hey : et ≤ 1 / 1000 * (uu * y) := by
    have := et_200
    have k := Rat.mul_le_mul_of_nonneg_left (show pw (-200) ≤ 1002 / 1000 * y by grind) (Rat.le_of_lt hu.1)
    have := Rat.mul_pos hu.1 hy0
    grind
  obtain ⟨D, Z, z1, z2, z3, z4, z5, z6, z7⟩ := half_sum hy0 hd hd1 g1 g2 g3 g4 (Rat.le_of_lt et_pos) hey
  have hD1 : D ≤ 1 := by
    have := half_D (c := 1) z1 z2 (by decide +kernel) (by have := Rat.mul_pos hy0 hl0; grind)
    rwa [show (1 : Rat) / 1 = 1 by decide +kernel] at this
  have m1 := Rat.mul_pos hu.1 hy0
  have m2 := Rat.mul_pos hu.1 z4
  have hs0 : 0 < s ∧ (35 / 10 * (uu * a)) * (1 + D) * (1 / 2) + uu * (101 / 100) * Z + uu * (101 / 100) * (y + Z) + 1 / 100 * (uu * y) ≤ 1 / 10 * y := by
    have c1 := half_prod (Rat.le_refl (a := 35 / 10 * (uu * a))) (by have := Rat.mul_nonneg (Rat.le_of_lt hu.1) (show 0 ≤ a by grind); grind) z2 hD1
    have c2 := Rat.mul_le_mul_of_nonneg_right hu.2 (Rat.le_of_lt hy0)
    have c3 := Rat.mul_le_mul_of_nonneg_left z5 (Rat.le_of_lt hu.1)
    have c4 : (35 / 10 * (uu * a)) * (1 + D) * (1 / 2) + uu * (101 / 100) * Z + uu * (101 / 100) * (y + Z) + 1 / 100 * (uu * y) ≤ 1 / 10 * y := by grind
    have c5 := (ab_le.1 z7).1
    exact ⟨by grind, c4⟩
  have hW := posW hs hs0.1
  refine ⟨s, hs, hs0.1, hW, ?_⟩
  refine sinh_end hs hW h0 (by grind) (by grind) hyd hvw z3 z4 z7 hs0.2 ?_
  exact half_first (show 0 ≤ a by grind) (by grind) hy0 z2 hD1 z4 (by have := Rat.mul_nonneg (Rat.le_of_lt hu.1) (show 0 ≤ a by grind); grind) (by have := Rat.mul_nonneg (Rat.le_of_lt hu.1) (show 0 ≤ a by grind); grind) (Rat.le_refl) z7 (unit_least hs hW).1
end Go.Proofs.YtcfkhhnkboealaaDoor
