/- The program's logarithm by value: the parts and the odd sum. No text of the program. -/
import Derived.Test.YtcfkhhnkboealaaDoorLa
import Derived.Test.YtcfkhhnkboealaaDoorHe
namespace Go.Proofs.YtcfkhhnkboealaaDoor
open Go.RowKit
set_option linter.unusedVariables false
set_option linter.unusedSimpArgs false
set_option maxRecDepth 100000
set_option maxHeartbeats 4000000
open Turns Sizes
theorem pn_neg (x : Rat) : ∀ k, pn (-x) (2 * k) = pn x (2 * k) ∧ pn (-x) (2 * k + 1) = -pn x (2 * k + 1)
  | 0 => by constructor <;> simp only [pn] <;> grind
  | k + 1 => by
    obtain ⟨a, b⟩ := pn_neg x k
    have e1 : ∀ y, pn y (2 * (k + 1)) = pn y (2 * k) * y * y := fun y => rfl
    have e2 : ∀ y, pn y (2 * (k + 1) + 1) = pn y (2 * k) * y * y * y := fun y => rfl
    rw [e1, e1, e2, e2, a]
    constructor <;> grind
theorem AT_neg (x : Rat) : ∀ k, AT (-x) k = -AT x k
  | 0 => by simp only [AT]; grind
  | k + 1 => by
    have h := AT_neg x k
    have p := (pn_neg x k).2
    show AT (-x) k + pn (-x) (2 * k + 1) / ((2 * k + 1 : Nat) : Rat) = -(AT x k + pn x (2 * k + 1) / ((2 * k + 1 : Nat) : Rat))
    rw [h, p]
    grind
theorem ratio_inv {X Y w e p : Rat} (hw : 0 ≤ w) (hw1 : w ≤ 172 / 1000) (h1 : X * (1 - w) ≤ (1 + w) * (1 + e)) (h2 : (1 + w) * (1 - p) ≤ X * (1 - w)) (he : 0 ≤ e) (hep : e ≤ p) (hp : p ≤ 1 / 100) (hX : 0 < X) (hY : 0 < Y) (h : ab (X * Y - 1) ≤ e) : ab (Y * (1 + w) - (1 - w)) ≤ 3 * p * (1 - w) := by
  have h' := ab_le.1 h
  have a1 := Rat.mul_le_mul_of_nonneg_left h1 (Rat.le_of_lt hY)
  have a2 := Rat.mul_le_mul_of_nonneg_left h2 (Rat.le_of_lt hY)
  have b1 := Rat.mul_le_mul_of_nonneg_right (show X * Y ≤ 1 + e by grind) (show 0 ≤ 1 - w by grind)
  have b2 := Rat.mul_le_mul_of_nonneg_right (show 1 - e ≤ X * Y by grind) (show 0 ≤ 1 - w by grind)
  obtain ⟨Z, hZ⟩ : ∃ Z, Z = Y * (1 + w) := ⟨_, rfl⟩
  have c1 : (1 - e) * (1 - w) ≤ Z * (1 + e) := by rw [hZ]; grind
  have c2 : Z * (1 - p) ≤ (1 + e) * (1 - w) := by rw [hZ]; grind
  have Z0 : 0 < Z := by rw [hZ]; exact Rat.mul_pos hY (by grind)
  have hw2 : 0 < 1 - w := by grind
  rw [← hZ]
  generalize 1 - w = W at *
  have m1 := Rat.mul_nonneg (show 0 ≤ p by grind) (Rat.le_of_lt hw2)
  have m2 := Rat.mul_le_mul_of_nonneg_right hep (Rat.le_of_lt hw2)
  have Z1 : Z ≤ 103 / 100 * W := by
    have := Rat.mul_le_mul_of_nonneg_right hp (Rat.le_of_lt Z0)
    have := Rat.mul_le_mul_of_nonneg_right hp (Rat.le_of_lt hw2)
    grind
  have m3 := Rat.mul_le_mul_of_nonneg_left Z1 (show 0 ≤ p by grind)
  have m4 := Rat.mul_le_mul_of_nonneg_left Z1 he
  rw [ab_le]
  constructor <;> grind
/-- e to twice the sum, with either sign. -/
theorem log_core {u : Rat} (hu : ab u ≤ 172 / 1000) : Rl (XX (2 * AT u 13)) ((1 + u) / (1 - u)) (tw 266 + 12 * (ab u * pn (ab u) 26)) := by
  have hu' := ab_le.1 hu
  have n := ab_nn u
  obtain ⟨f1, f2⟩ := FF_all n hu
  have s := AT_size n (show ab u ≤ 1 / 5 by grind)
  have hX := XX_pos (a := 2 * AT (ab u) 13) (by rw [ab_pos (by grind)]; grind)
  have pu := pn_nn n 26
  have p1 : pn (ab u) 26 ≤ 1 / 10000 := Rat.le_trans (pn_mono n hu 26) (by decide +kernel)
  have up := mul_mono n hu pu p1
  have up0 := Rat.mul_nonneg n pu
  have t268 : 0 < tw 268 ∧ tw 268 ≤ 1 / 1000000 ∧ tw 266 = 4 * tw 268 ∧ tw 553 ≤ tw 268 := by decide +kernel
  have hp : 0 < 1 - u := by grind
  have hp2 : 0 < 1 + u := by grind
  have hq : (1 + u) / (1 - u) * (1 - u) = 1 + u := div_self_mul _ (by grind)
  have hq0 : 0 < (1 + u) / (1 - u) := by
    rcases (show 0 < (1 + u) / (1 - u) ∨ (1 + u) / (1 - u) ≤ 0 by grind) with q | q
    · exact q
    · have := Rat.mul_le_mul_of_nonneg_right q (Rat.le_of_lt hp); grind
  refine ⟨?_, hq0⟩
  have key : ab (XX (2 * AT u 13) * (1 - u) - (1 + u)) ≤ (tw 266 + 12 * (ab u * pn (ab u) 26)) * (1 + u) := by
    rcases (show 0 ≤ u ∨ u < 0 by grind) with q | q
    · have e : ab u = u := ab_pos q
      rw [e] at f1 f2 up0 ⊢
      have m := Rat.mul_nonneg up0 (Rat.le_of_lt hp2)
      have m2 := Rat.mul_nonneg (Rat.le_of_lt t268.1) (Rat.le_of_lt hp2)
      rw [ab_le, t268.2.2.1]
      generalize XX (2 * AT u 13) * (1 - u) = A at *
      generalize u * pn u 26 = P at *
      generalize tw 268 = τ at *
      clear hq hq0 up pu p1 hX n hu hu' s e t268
      constructor <;> grind
    · have e : ab u = -u := by unfold ab; grind
      obtain ⟨w, hw⟩ : ∃ w, w = ab u := ⟨_, rfl⟩
      have hu2 : u = -w := by grind
      have eA : 2 * AT u 13 = -(2 * AT w 13) := by rw [hu2, AT_neg]; grind
      rw [eA]
      rw [← hw] at f1 f2 s hX up up0 p1 n ⊢
      have hY := XX_pos (a := -(2 * AT w 13)) (by rw [ab_neg, ab_pos (by grind)]; grind)
      have hadd := (XX_add (a := 2 * AT w 13) (b := -(2 * AT w 13)) (by rw [ab_pos (by grind)]; grind) (by rw [ab_neg, ab_pos (by grind)]; grind)).1
      rw [show 2 * AT w 13 + -(2 * AT w 13) = 0 by grind, XX_zero, Rat.mul_one] at hadd
      have r := ratio_inv (e := tw 268) (p := tw 268 + 4 * (w * pn w 26)) n (by rw [hw]; exact hu) f1 f2 (Rat.le_of_lt t268.1) (by grind) (by grind) hX hY (Rat.le_trans hadd t268.2.2.2)
      rw [hu2, show 1 - -w = 1 + w by grind, show 1 + -w = 1 - w by grind]
      refine Rat.le_trans r (Rat.mul_le_mul_of_nonneg_right ?_ (by grind))
      rw [t268.2.2.1]
      have := t268.1
      grind
  have e2 : ab (XX (2 * AT u 13) - (1 + u) / (1 - u)) * (1 - u) = ab (XX (2 * AT u 13) * (1 - u) - (1 + u)) := by
    rw [show XX (2 * AT u 13) * (1 - u) - (1 + u) = (XX (2 * AT u 13) - (1 + u) / (1 - u)) * (1 - u) by grind, ab_mul, ab_pos (Rat.le_of_lt hp)]
  refine Rat.le_of_mul_le_mul_right (c := 1 - u) ?_ hp
  rw [e2]
  refine Rat.le_trans key ?_
  have : (tw 266 + 12 * (ab u * pn (ab u) 26)) * ((1 + u) / (1 - u)) * (1 - u) = (tw 266 + 12 * (ab u * pn (ab u) 26)) * (1 + u) := by grind
  rw [this]
  exact Rat.le_refl
theorem twice_word {b : Nat} (h : b < 9214364837600034816) : ∃ d, d < 9218868437227405312 ∧ mval d = 2 * mval b := by
  rcases Nat.lt_or_ge b 4503599627370496 with q | q
  · refine ⟨2 * b, by omega, ?_⟩
    unfold mval
    rw [if_pos q]
    rcases Nat.lt_or_ge (2 * b) 4503599627370496 with r | r
    · rw [if_pos r]
    · rw [if_neg (by omega), show 2 * b / 4503599627370496 - 1 = 0 by omega]
      omega
  · refine ⟨b + 4503599627370496, by omega, ?_⟩
    obtain ⟨L, hL⟩ : ∃ L, b / 4503599627370496 = L + 1 := ⟨b / 4503599627370496 - 1, by omega⟩
    have hL2 : (b + 4503599627370496) / 4503599627370496 = L + 2 := by omega
    unfold mval
    rw [if_neg (by omega), if_neg (by omega), hL, hL2, show (b + 4503599627370496) % 4503599627370496 = b % 4503599627370496 by omega, show L + 2 - 1 = (L + 1 - 1) + 1 by omega, Nat.pow_succ]
    generalize 2 ^ (L + 1 - 1) = X
    rw [← Nat.mul_assoc, Nat.mul_comm]
theorem V.twice {f : Nat} {a : Rat} (hf : V f a) (h : ab a ≤ 1000000) : V (fmul 4611686018427387904 f) (2 * a) := by
  have hr := fin_rung hf.fin
  have hsm : rung f < 9214364837600034816 := by
    have h1 : (1000001 : Rat) ≤ (mval 9214364837600034816 : Rat) / (U : Rat) := by
      rw [le_div UQ_pos]
      have h2 : 1000001 * U ≤ mval 9214364837600034816 := by decide +kernel
      have h3 := cast_le.2 h2
      rw [cast_mul] at h3
      have e : ((1000001 : Nat) : Rat) = 1000001 := by decide +kernel
      rw [e] at h3
      exact h3
    rcases Nat.lt_or_ge (rung f) 9214364837600034816 with q | q
    · exact q
    · exfalso
      have h3 := cast_le.2 (mval_le_iff.2 q)
      have h4 : (mval 9214364837600034816 : Rat) / (U : Rat) ≤ (mval (rung f) : Rat) / (U : Rat) := by
        rw [div_le UQ_pos, div_self_mul _ UQ_ne]; exact h3
      have h5 := hf.size
      grind
  obtain ⟨d, hd, hm⟩ := twice_word hsm
  obtain ⟨k, hk, e⟩ : ∃ k, k = 1074 ∧ mval (rung 4611686018427387904) = 2 * 2 ^ k := by refine ⟨1074, rfl, ?_⟩; decide +kernel
  have e1' : fmul 4611686018427387904 f = wd (sgn f) d := by
    rw [fmul_fin (by decide +kernel) hf.fin, e, show 2 * 2 ^ k * mval (rung f) = mval d * 2 ^ k by rw [hm]; generalize 2 ^ k = X; rw [Nat.mul_assoc, Nat.mul_assoc, Nat.mul_comm X], ← hk, rndQ_cancel, rnd_mval hd, show sgn 4611686018427387904 = false by decide +kernel, Bool.false_xor]
  rw [e1']
  have hv := V.word (s := sgn f) hd
  have e2 : sq (sgn f) ((mval d : Rat) / (U : Rat)) = 2 * a := by
    rw [hm, cast_mul, hf.form]
    have e3 : ((2 : Nat) : Rat) = 2 := rfl
    rw [e3]
    have h1 := div_self_mul (2 * (mval (rung f) : Rat)) UQ_ne
    have h3 := div_self_mul (mval (rung f) : Rat) UQ_ne
    have hU := UQ_ne
    have e4 : 2 * (mval (rung f) : Rat) / (U : Rat) = 2 * ((mval (rung f) : Rat) / (U : Rat)) := by
      generalize 2 * (mval (rung f) : Rat) / (U : Rat) = Y at *
      generalize (mval (rung f) : Rat) / (U : Rat) = X at *
      have : (Y - 2 * X) * (U : Rat) = 0 := by grind
      grind
    rw [e4]
    cases sgn f
    · rfl
    · show -(2 * _) = 2 * -_
      grind
  rw [e2] at hv
  exact hv
end Go.Proofs.YtcfkhhnkboealaaDoor
