/- The program's exponential, after its power of two: within the law's units of the true one. No text of the program. The law of the exponential: within 4 units, or beyond the greatest. No text of the program. The exponential less one, where no power of two is taken out: within 16 units. No text of the program. The exponential less one, elsewhere: within 16 units. No text of the program. Where the argument is tiny: the exponential is one. No text of the program. Where the argument is far out, and what the statement's walk asks of units and marks. No text of the program. -/
import Derived.Test.YtcfkhhnkboealaaDoorEab
import Derived.Test.YtcfkhhnkboealaaDoorUnr
import Derived.Test.YtcfkhhnkboealaaDoorSym
namespace Go.Proofs.YtcfkhhnkboealaaDoor
set_option linter.unusedVariables false
set_option linter.unusedSimpArgs false
set_option maxRecDepth 100000
open Turns Sizes
theorem gap_ge {r : Nat} {k : Int} (h : r < 9218868437227405312) (hk : pw k ≤ (mval r : Rat) / (U : Rat)) : pw (k - 52) ≤ gapq r := by
  rw [gap_pw]
  obtain ⟨L, hL⟩ : ∃ L, L = r / 4503599627370496 - 1 := ⟨_, rfl⟩
  obtain ⟨q, hq⟩ : ∃ q, q = r - L * 4503599627370496 := ⟨_, rfl⟩
  have hr : r = L * 4503599627370496 + q := by omega
  have b2 : q < 2 ^ 53 := by omega
  have e0 : mval r = q * 2 ^ L := by rw [hr]; exact mval_plc (by omega) (by omega)
  rw [← hL]
  have h3 : mval r < 2 ^ (53 + L) := by
    rw [e0, Nat.pow_add]
    exact Nat.mul_lt_mul_of_pos_right b2 (Nat.pow_pos (by decide))
  have h4 : (mval r : Rat) / (U : Rat) < pw (((53 + L : Nat) : Int) - (e1 : Int)) := by
    rw [pw_sub, ← U_def]
    have hU := UQ_pos
    have hc : (mval r : Rat) < ((2 ^ (53 + L) : Nat) : Rat) := by
      have := cast_le.2 h3
      have e : ((mval r + 1 : Nat) : Rat) = (mval r : Rat) + 1 := by grind
      have : ((mval r + 1 : Nat) : Rat) ≤ ((2 ^ (53 + L) : Nat) : Rat) := this
      rw [e] at this
      grind
    generalize ((2 ^ (53 + L) : Nat) : Rat) = Z at *
    have a1 := div_self_mul (mval r : Rat) UQ_ne
    have a2 := div_self_mul Z UQ_ne
    rcases Rat.le_total (a := Z / (U : Rat)) (b := (mval r : Rat) / (U : Rat)) with m | m
    · have := Rat.mul_le_mul_of_nonneg_right m (Rat.le_of_lt hU)
      grind
    · by_cases e : (mval r : Rat) / (U : Rat) = Z / (U : Rat)
      · rw [e] at a1; grind
      · grind
  have := pw_lt_inv (show pw k < _ from lt_of_le_lt hk h4)
  exact pw_mono (by omega)
theorem err_core {t P p v : Rat} (hp : 0 < p) (hP : 0 ≤ P) (ht : ab (t - P) ≤ uu * (1702 / 1000 * P + 158 / 100)) (hv : ab (v - p * P) ≤ 1 / 128 * uu * (p * P)) :
    ab (t * p - v) ≤ (1702 / 1000 + 1 / 128) * (uu * p * P) + 158 / 100 * (uu * p) := by
  have h1 := Rat.mul_le_mul_of_nonneg_right ht (Rat.le_of_lt hp)
  have h2 : ab ((t - P) * p) = ab (t - P) * p := by rw [ab_mul, ab_pos (Rat.le_of_lt hp)]
  have h3 := ab_tri (t * p) (p * P) v
  rw [ab_comm (p * P) v, show t * p - p * P = (t - P) * p by grind, h2] at h3
  grind
/-- where the power of two is exact. -/
theorem err_exact {t P v : Rat} {n : Int} {r : Nat} (hr : r < 9218868437227405312) (h1 : 7 / 10 ≤ P) (h2 : P ≤ 1417 / 1000) (ht : ab (t - P) ≤ uu * (1702 / 1000 * P + 158 / 100)) (hv : ab (v - pw n * P) ≤ 1 / 128 * uu * (pw n * P)) (hc : t * pw n = (mval r : Rat) / (U : Rat)) :
    101 / 100 * ab (t * pw n - v) ≤ 4 * gapq r := by
  have hp := pw_pos n
  have hu := uu_pos
  have hus : uu ≤ 1 / 100000 := by rw [uuv]; decide +kernel
  have k := err_core hp (by grind) ht hv
  have hA : 0 < uu * pw n := Rat.mul_pos hu hp
  have ht2 : ab (t - P) ≤ 5 / 100000 := by
    have := Rat.mul_le_mul_of_nonneg_right hus (show 0 ≤ 1702 / 1000 * P + 158 / 100 by grind)
    grind
  rw [ab_le] at ht2
  have e53 : uu = pw (-53) := by decide +kernel
  by_cases h : 1 ≤ t
  · have g := gap_ge (k := n) hr (by rw [← hc]; have := Rat.mul_le_mul_of_nonneg_right h (Rat.le_of_lt hp); grind)
    have e : pw (n - 52) = 2 * (uu * pw n) := by
      rw [e53, ← pw_add, ← pw_one, ← pw_add]; congr 1; omega
    rw [e] at g
    have q := Rat.mul_le_mul_of_nonneg_left h2 (Rat.le_of_lt hA)
    grind
  · have g := gap_ge (k := n - 1) hr (by
      rw [← hc]
      have e : pw n = 2 * pw (n - 1) := by rw [← pw_one, ← pw_add]; congr 1; omega
      have := pw_pos (n - 1)
      have := Rat.mul_le_mul_of_nonneg_right (show 1 / 2 ≤ t by grind) (Rat.le_of_lt hp)
      grind)
    have e : pw (n - 1 - 52) = uu * pw n := by
      rw [e53, ← pw_add]; congr 1; omega
    rw [e] at g
    have q := Rat.mul_le_mul_of_nonneg_left (show P ≤ 1 + 5 / 100000 by grind) (Rat.le_of_lt hA)
    grind
/-- among the smallest. -/
theorem err_small {t P v c : Rat} {n : Int} {r : Nat} (hr : r ≤ 4503599627370496) (h1 : 7 / 10 ≤ P) (h2 : P ≤ 1417 / 1000) (ht : ab (t - P) ≤ uu * (1702 / 1000 * P + 158 / 100)) (hv : ab (v - pw n * P) ≤ 1 / 128 * uu * (pw n * P)) (hc : ab c = (mval r : Rat) / (U : Rat)) (he : ab (c - t * pw n) ≤ et) :
    101 / 100 * ab (c - v) ≤ 4 * gapq r := by
  have hp := pw_pos n
  have hu := uu_pos
  have hus : uu ≤ 1 / 100000 := by rw [uuv]; decide +kernel
  have k := err_core hp (by grind) ht hv
  have hA : 0 < uu * pw n := Rat.mul_pos hu hp
  have ht2 : ab (t - P) ≤ 5 / 100000 := by
    have := Rat.mul_le_mul_of_nonneg_right hus (show 0 ≤ 1702 / 1000 * P + 158 / 100 by grind)
    grind
  rw [ab_le] at ht2
  have hg : 2 * et ≤ gapq r := by
    have := gap_mono (Nat.zero_le r)
    have e : gapq 0 = 1 / (U : Rat) := by rw [gap_eq]; rfl
    have e2 : 2 * et = 1 / (U : Rat) := by
      have a := et_U
      have b := div_self_mul 1 UQ_ne
      have : (2 * et - 1 / (U : Rat)) * (U : Rat) = 0 := by grind
      have := UQ_ne
      grind
    grind
  have hm : uu * ab c ≤ et := by
    have a : mval r ≤ 4503599627370496 := by
      have := mval_le_iff.2 hr
      have e : mval 4503599627370496 = 4503599627370496 := by decide +kernel
      omega
    have a' := cast_le.2 a
    have b : (mval r : Rat) / (U : Rat) ≤ 9007199254740992 * et := by
      rw [div_le UQ_pos]
      have := et_U
      have e9 : ((4503599627370496 : Nat) : Rat) = 4503599627370496 := by decide +kernel
      rw [e9] at a'
      grind
    rw [hc]
    have := Rat.mul_le_mul_of_nonneg_left b (Rat.le_of_lt hu)
    rw [uuv] at this ⊢
    grind
  have hep := et_pos
  have q0 := ab_tri c (t * pw n) v
  have tp : 0 ≤ t * pw n := Rat.mul_nonneg (by grind) (Rat.le_of_lt hp)
  have q1 := ab_of c
  have q2 := (ab_le.1 he)
  have q3 : t * pw n ≤ ab c + et := by grind
  have q4 := Rat.mul_le_mul_of_nonneg_left q3 (Rat.le_of_lt hu)
  have q5 := Rat.mul_le_mul_of_nonneg_right hus (Rat.le_of_lt hep)
  have q6 := Rat.mul_le_mul_of_nonneg_left (show P ≤ 1001 / 1000 * t by grind) (Rat.le_of_lt hA)
  have q7 := Rat.mul_le_mul_of_nonneg_left h1 (Rat.le_of_lt hA)
  have e8 : uu * (t * pw n) = uu * pw n * t := by grind
  rw [e8] at q4
  grind
/-- the greatest float. -/
theorem max_val : (mval 9218868437227405311 : Rat) / (U : Rat) = pw 1024 * (1 - uu) := by
  obtain ⟨L, hL⟩ : ∃ L : Nat, L = 2045 := ⟨_, rfl⟩
  have h := mval_plc (L := L) (q := 9007199254740991) (by decide) (.inr (by decide))
  rw [show L * 4503599627370496 + 9007199254740991 = 9218868437227405311 by omega] at h
  have e := pw_sub L e1
  rw [show ((L : Nat) : Int) - ((e1 : Nat) : Int) = 971 by rw [e1_eq]; omega] at e
  have e2 : pw 1024 = 9007199254740992 * pw 971 := by
    rw [show (1024 : Int) = 53 + 971 by omega, pw_add]
    have : pw 53 = 9007199254740992 := by decide +kernel
    rw [this]
  rw [h, cast_mul, e2, e, ← U_def, uuv]
  have e9 : ((9007199254740991 : Nat) : Rat) = 9007199254740991 := by decide +kernel
  rw [e9]
  have := div_self_mul ((2 ^ L : Nat) : Rat) UQ_ne
  have hu := UQ_ne
  generalize ((2 ^ L : Nat) : Rat) = Z at *
  have b := div_self_mul (9007199254740991 * Z) UQ_ne
  have : (9007199254740991 * Z / (U : Rat) - 9007199254740991 * (Z / (U : Rat))) * (U : Rat) = 0 := by grind
  grind
theorem scale_top {f : Nat} {a : Rat} (hf : V f a) (ha : 0 < a) {n : Int} (h0 : 0 ≤ n) (h1 : n ≤ 5000) :
    V (scaleF f (clampN n)) (a * pw n) ∨ (scaleF f (clampN n) = infP ∧ pw 1024 * (1 - uu) ≤ a * pw n) := by
  have hU := UQ_pos
  have hfr := fin_rung hf.fin
  have hw := posW hf ha
  rw [clamp_id (by omega) h1]
  have hz : rung f ≠ 0 := hf.nz (by grind)
  have hsv := scale_val hf.lt hf.fin hz n
  have hv := hf.uniq (V.pos hw)
  have hs : sgn f = false := (word_facts hw).2.1
  have hru : rung f = f := (word_facts hw).2.2.1
  obtain ⟨j, rfl⟩ := Int.eq_ofNat_of_zero_le h0
  rw [rndE_nat, hs, hru] at hsv
  have hwd : ∀ q, wd false q = q := fun q => wd_false' q
  rw [hwd] at hsv
  rw [hsv, pw_nat, hv]
  have hmul : (mval f : Rat) / (U : Rat) * ((2 ^ j : Nat) : Rat) = ((mval f * 2 ^ j : Nat) : Rat) / (U : Rat) := by
    rw [cast_mul]
    have a1 := div_self_mul (mval f : Rat) UQ_ne
    have a2 := div_self_mul ((mval f : Rat) * ((2 ^ j : Nat) : Rat)) UQ_ne
    have := UQ_ne
    have : ((mval f : Rat) / (U : Rat) * ((2 ^ j : Nat) : Rat) - (mval f : Rat) * ((2 ^ j : Nat) : Rat) / (U : Rat)) * (U : Rat) = 0 := by grind
    grind
  rw [hmul]
  rcases Nat.lt_or_ge (rndN (mval f * 2 ^ j)) 9218868437227405312 with k | k
  · left
    obtain ⟨m, t, em, hm⟩ := mval_form' hw
    have hex : mval (rndN (mval f * 2 ^ j)) = mval f * 2 ^ j := by
      have e1 : mval f * 2 ^ j = m * 2 ^ (t + j) := by rw [em, Nat.mul_assoc, Nat.pow_add]
      rw [e1] at k ⊢
      exact rnd_shift_exact hm k
    have := V.pos k
    rwa [hex] at this
  · right
    refine ⟨?_, ?_⟩
    · have := rndN_le (mval f * 2 ^ j)
      have e : rndN (mval f * 2 ^ j) = 9218868437227405312 := by omega
      rw [e]; rfl
    · rw [← max_val, div_le hU, div_self_mul _ UQ_ne]
      apply cast_le.2
      rcases Nat.le_total (mval 9218868437227405311) (mval f * 2 ^ j) with m | m
      · exact m
      · have := rndN_le_of (r := 9218868437227405311) (by decide) m
        omega
/-- where it is infinite, the true one is beyond the law's mark. -/
theorem big_true {t P v : Rat} {n : Int} (h1 : 7 / 10 ≤ P) (ht : ab (t - P) ≤ uu * (1702 / 1000 * P + 158 / 100)) (hv : ab (v - pw n * P) ≤ 1 / 128 * uu * (pw n * P)) (hc : pw 1024 * (1 - uu) ≤ t * pw n) :
    pw 1024 * (1 - 498 / 100 * uu) ≤ v := by
  have hp := pw_pos n
  have hM := pw_pos 1024
  have h2 := Rat.mul_le_mul_of_nonneg_right ht (Rat.le_of_lt hp)
  have h3 : ab ((t - P) * pw n) = ab (t - P) * pw n := by rw [ab_mul, ab_pos (Rat.le_of_lt hp)]
  rw [← h3] at h2
  have h4 := (ab_le.1 h2).2
  have h5 := (ab_le.1 hv).1
  have h6 := Rat.mul_le_mul_of_nonneg_right h1 (Rat.le_of_lt hp)
  rw [uuv] at *
  generalize pw 1024 = M at *
  generalize pw n = p at *
  obtain ⟨Q, hQ⟩ : ∃ Q, Q = p * P := ⟨_, rfl⟩
  have e1 : (t - P) * p = t * p - Q := by grind
  have e2 : 1 / 9007199254740992 * (1702 / 1000 * P + 158 / 100) * p = 1 / 9007199254740992 * (1702 / 1000 * Q + 158 / 100 * p) := by grind
  rw [e1, e2] at h4
  rw [← hQ] at h5
  have e3 : P * p = Q := by grind
  rw [e3] at h6
  generalize t * p = T at *
  grind
end Go.Proofs.YtcfkhhnkboealaaDoor
namespace Go.Proofs.YtcfkhhnkboealaaDoor
set_option linter.unusedVariables false
set_option linter.unusedSimpArgs false
set_option maxRecDepth 100000
open Turns Sizes
theorem word_ge {w N D : Nat} (hD : 0 < D) (h : N * U ≤ mval w * D) : (N : Rat) / (D : Rat) ≤ (mval w : Rat) / (U : Rat) := by
  have hU := UQ_pos
  have h1 := cast_le.2 h
  rw [cast_mul, cast_mul] at h1
  have hDp : (0 : Rat) < (D : Rat) := by
    have := cast_le.2 hD
    have e : ((1 : Nat) : Rat) = 1 := rfl
    have : ((1 : Nat) : Rat) ≤ (D : Rat) := this
    rw [e] at this
    grind
  rw [div_le hDp]
  have a := div_self_mul (mval w : Rat) UQ_ne
  generalize (mval w : Rat) / (U : Rat) = x at *
  rw [← a] at h1
  have e : x * (U : Rat) * (D : Rat) = x * (D : Rat) * (U : Rat) := by grind
  rw [e] at h1
  exact Rat.le_of_mul_le_mul_right h1 hU
theorem L2_one : L2 = 26814832747904039722237046 / 38685626227668133590597632 := by
  decide +kernel
theorem V.order {f g : Nat} {a : Rat} (hf : V f a) (hl : flt g f = true) (hg : g < 9218868437227405312) : (mval (g + 1) : Rat) / (U : Rat) ≤ a := by
  obtain ⟨_, _, _, b4, b5, _⟩ := word_facts hg
  rw [flt_eq, b4, fin_notN hf.fin, b5] at hl
  simp only [Bool.not_false, Bool.true_and, decide_eq_true_eq] at hl
  have hs : sgn f = false := by
    cases e : sgn f
    · rfl
    · unfold sval at hl; rw [e] at hl
      simp at hl
      omega
  have hv := hf.form
  rw [hs] at hv
  unfold sval at hl; rw [hs] at hl
  have h1 : mval g < mval (rung f) := by simpa using hl
  have h2 := mval_lt_iff.1 h1
  have h3 := cast_le.2 (mval_le_iff.2 (show g + 1 ≤ rung f by omega))
  rw [hv]
  show _ ≤ (mval (rung f) : Rat) / (U : Rat)
  rw [div_le UQ_pos, div_self_mul _ UQ_ne]
  exact h3
theorem V.order_neg {f g : Nat} {a : Rat} (hf : V f a) (hl : flt f (g + 9223372036854775808) = true) (hg : g < 9218868437227405312) : a ≤ -((mval g : Rat) / (U : Rat)) := by
  have g1 : sgn (g + 9223372036854775808) = true := by unfold sgn; simp; omega
  have g2 : rung (g + 9223372036854775808) = g := by unfold rung; omega
  have g3 : isN (g + 9223372036854775808) = false := by apply fin_notN; unfold Proofs.YtcfkhhnkboealaaDoor.fin; rw [g2]; simpa using hg
  have g4 : sval (g + 9223372036854775808) = -(mval g : Int) := by unfold sval; rw [g1, g2]; simp
  rw [flt_eq, g3, fin_notN hf.fin, g4] at hl
  simp only [Bool.not_false, Bool.true_and, decide_eq_true_eq] at hl
  have hs : sgn f = true := by
    cases e : sgn f
    · unfold sval at hl; rw [e] at hl
      simp at hl
      omega
    · rfl
  have hv := hf.form
  rw [hs] at hv
  unfold sval at hl; rw [hs] at hl
  have h1 : mval g < mval (rung f) := by
    simp at hl
    omega
  have h3 := cast_le.2 (Nat.le_of_lt h1)
  rw [hv]
  show -((mval (rung f) : Rat) / (U : Rat)) ≤ _
  have : (mval g : Rat) / (U : Rat) ≤ (mval (rung f) : Rat) / (U : Rat) := by
    rw [div_le UQ_pos, div_self_mul _ UQ_ne]
    exact h3
  grind
theorem V_zero : V 0 0 := by
  have h := V.pos (r := 0) (by decide)
  rw [mval_zero] at h
  have e : ((0 : Nat) : Rat) / (U : Rat) = 0 := by
    have a := div_self_mul ((0 : Nat) : Rat) UQ_ne
    have := UQ_ne
    have e0 : ((0 : Nat) : Rat) = 0 := rfl
    rw [e0] at a ⊢
    grind
  rwa [e] at h
theorem TT_one {y : Rat} (h : 0 ≤ y) (n : Nat) : 1 ≤ TT y n := by
  induction n with
  | zero => rw [TT_zero]; exact Rat.le_refl
  | succ n ih =>
    rw [TT_succ]
    have := ee_nn h (n + 1)
    grind
theorem sqr_one {x : Rat} (h : 1 ≤ x) : ∀ k, 1 ≤ sqr k x
  | 0 => h
  | k + 1 => by
    have a := sqr_one h k
    have := Rat.mul_le_mul_of_nonneg_left a (show 0 ≤ sqr k x by grind)
    simp only [sqr]
    grind
theorem XX_one {a : Rat} (h : 0 ≤ a) : 1 ≤ XX a := by
  have t : 0 ≤ tw 16 := by decide +kernel
  exact sqr_one (TT_one (Rat.mul_nonneg h t) 60) 16
/-- great arguments. -/
theorem XX_great {a : Rat} (h : 1024 * L2 ≤ a) (h2 : a ≤ 760) : pw 1024 * (1 - 1 / 128 * uu) ≤ XX a := by
  have hl : (1024 : Rat) * L2 ≤ 710 ∧ 0 ≤ 1024 * L2 := by decide +kernel
  have h1 := XX_add (a := 1024 * L2) (b := a - 1024 * L2) (by rw [ab_pos hl.2]; grind) (by rw [ab_pos (by grind)]; grind)
  rw [show 1024 * L2 + (a - 1024 * L2) = a by grind] at h1
  have h3 := (XX_pow2 (n := 1024) (by decide) (by decide))
  have e : ((1024 : Int) : Rat) = 1024 := by decide +kernel
  rw [e] at h3
  have h4 := XX_one (a := a - 1024 * L2) (by grind)
  have h5 := (ab_le.1 h3.1).1
  have h6 := (ab_le.1 h1.1).2
  have hM := pw_pos 1024
  have hX := h1.2
  have t1 : tw 71 ≤ 1 / 1000 * uu := by decide +kernel
  have t2 : tw 553 ≤ 1 / 1000 * uu := by decide +kernel
  have us : uu ≤ 1 / 1000 := by decide +kernel
  have hu := uu_pos
  have k1 := Rat.mul_le_mul_of_nonneg_right t1 (Rat.le_of_lt hM)
  have k2 := Rat.mul_le_mul_of_nonneg_right t2 (Rat.le_of_lt hX)
  have k3 := Rat.mul_le_mul_of_nonneg_left h4 (show 0 ≤ XX (1024 * L2) by
    have := Rat.mul_le_mul_of_nonneg_right us (Rat.le_of_lt hM)
    grind)
  generalize XX (1024 * L2) * XX (a - 1024 * L2) = Y at *
  generalize XX (1024 * L2) = Z at *
  generalize XX a = W at *
  generalize pw 1024 = M at *
  rw [uuv] at *
  grind
/-- the smallest ones. -/
theorem XX_least {a : Rat} (h : a ≤ -(1074 * L2)) (h2 : -760 ≤ a) : XX a ≤ 101 / 100 * pw (-1074) := by
  have hl : (1074 : Rat) * L2 ≤ 745 ∧ 0 ≤ 1074 * L2 := by decide +kernel
  have h1 := XX_add (a := a) (b := -(1074 * L2) - a) (by rw [ab_le]; constructor <;> grind) (by rw [ab_pos (by grind)]; grind)
  rw [show a + (-(1074 * L2) - a) = -(1074 * L2) by grind] at h1
  have h3 := (XX_pow2 (n := -1074) (by decide) (by decide))
  have e : ((-1074 : Int) : Rat) * L2 = -(1074 * L2) := by decide +kernel
  rw [e] at h3
  have h4 := XX_one (a := -(1074 * L2) - a) (by grind)
  have h5 := (ab_le.1 h3.1).2
  have h6 := (ab_le.1 h1.1).2
  have hM := pw_pos (-1074)
  have hX := h1.2
  have t1 : tw 71 ≤ 1 / 1000 := by decide +kernel
  have t2 : tw 553 ≤ 1 / 1000 := by decide +kernel
  have k1 := Rat.mul_le_mul_of_nonneg_right t1 (Rat.le_of_lt hM)
  have k2 := Rat.mul_le_mul_of_nonneg_right t2 (Rat.le_of_lt hX)
  have k3 := Rat.mul_le_mul_of_nonneg_left h4 (Rat.le_of_lt (XX_pos (a := a) (by rw [ab_le]; constructor <;> grind)))
  grind
theorem et_mil : et ≤ 1 / 1000 := by
  have h := et_tau
  have : (1 : Rat) / 1606938044258990275541962092341162602522202993782792835301376 ≤ 1 / 1000 := by decide +kernel
  exact Rat.le_trans h this
theorem low_c {t p c : Rat} (h : t ≤ 1418 / 1000) (h0 : 0 ≤ t) (m1 : p ≤ 1 / 2) (h2 : ab (c - t * p) ≤ et) : c ≤ 72 / 100 := by
  have m4 := Rat.mul_le_mul_of_nonneg_left m1 h0
  have m5 := (ab_le.1 h2).2
  have m6 := et_mil
  grind
theorem high_c {t p : Rat} (h : 69 / 100 ≤ t) (m1 : 2 ≤ p) : 5 / 4 ≤ t * p := by
  have m4 := Rat.mul_le_mul_of_nonneg_left m1 (show 0 ≤ t by grind)
  grind
theorem no_up {a : Rat} {n : Int} (ha : a ≤ -700) (n6 : ab (a - (n : Rat) * L2) ≤ 3466 / 10000) (h : 1 ≤ n) : False := by
  have l0 : 0 ≤ L2 := by decide +kernel
  have c1 := cast_le'.2 h
  have c2 : ((1 : Int) : Rat) = 1 := by decide +kernel
  rw [c2] at c1
  have c3 := Rat.mul_le_mul_of_nonneg_right c1 l0
  have c4 := (ab_le.1 n6).1
  generalize (n : Rat) * L2 = Y at *
  grind
/-- what the law asks of an exponential. -/
def EL (e : Nat) (v : Rat) (n : Int) : Prop := (∃ c, V e c ∧ 0 ≤ c ∧ e < 9218868437227405312 ∧ 101 / 100 * ab (c - v) ≤ 4 * gapq (rung e) ∧ (1 ≤ n → 5 / 4 ≤ c) ∧ (n ≤ -1 → c ≤ 72 / 100)) ∨ (e = infP ∧ pw 1024 * (1 - 498 / 100 * uu) ≤ v)
theorem exp_law {f : Nat} {a v : Rat} (hf : V f a) (ha : ab a ≤ 750) (hv : Rl v (XX a) (tw 62)) : EL (expF f) v (wInt (expN f)) := by
  have ha' := ab_le.1 ha
  have hu := uu_pos
  unfold expF
  rw [fin_notN hf.fin, if_neg (by decide)]
  cases k1 : flt 4649454594685214392 f
  · rw [if_neg (by decide)]
    cases k2 : flt f 13873137573428325253
    · rw [if_neg (by decide)]
      obtain ⟨n, t, P, q1, q2, q3, q4, q5, q6, q7, q8, q9⟩ := exp_core hf (Rat.le_trans ha (by decide +kernel))
      rw [q1]
      have hvp : ab (v - pw n * P) ≤ 1 / 128 * uu * (pw n * P) := (rl_mono (rl_trans hv q6 (by decide +kernel)) (e := 1 / 128 * uu) (by decide +kernel)).1
      have hp := pw_pos n
      have us : uu ≤ 1 / 100000 := by decide +kernel
      have ht2 : ab (t - P) ≤ 5 / 100000 := by
        have := Rat.mul_le_mul_of_nonneg_right us (show 0 ≤ 1702 / 1000 * P + 158 / 100 by grind)
        grind
      have ht3 := ab_le.1 ht2
      rcases Int.lt_or_le n 0 with hn | hn
      · left
        have htp : 0 ≤ t * pw n := Rat.mul_nonneg (by grind) (Rat.le_of_lt hp)
        have hb : ab (t * pw n) ≤ BG := by
          rw [ab_pos htp, BG_pw']
          have m1 : pw n ≤ pw (-1) := pw_mono (by omega)
          have m2 : pw (-1) = 1 / 2 := by decide +kernel
          have m3 : (1 : Rat) ≤ pw (kBG : Int) := by
            have := pw_mono (a := 0) (b := (kBG : Int)) (by omega)
            rwa [pw_zero] at this
          have m4 := Rat.mul_le_mul_of_nonneg_right (show t ≤ 2 by grind) (Rat.le_of_lt hp)
          rw [m2] at m1
          refine Rat.le_trans m4 (Rat.le_trans ?_ m3)
          clear m3 m4
          grind
        obtain ⟨c, c1, c2, _, _, c3⟩ := V.scale q5 (n := n) (by omega) (by omega) hb
        have hfr := fin_rung c1.fin
        have hwT := posW q5 (by grind)
        have hw : scaleF (riseSeq (expR f) 13) (clampN n) < 9218868437227405312 := by
          have hz : rung (riseSeq (expR f) 13) ≠ 0 := q5.nz (by grind)
          have hsv := scale_val q5.lt q5.fin hz n
          rw [(word_facts hwT).2.1] at hsv
          obtain ⟨j, hj⟩ := Int.eq_ofNat_of_zero_le (a := -n) (by omega)
          obtain rfl : n = -(j : Int) := by omega
          rw [rndE_neg, wd_false', (word_facts hwT).2.2.1] at hsv
          have hq := rndQ_le (mval (riseSeq (expR f) 13)) j
          rw [clamp_id (by omega) (by omega)] at hfr ⊢
          rw [hsv] at hfr ⊢
          rwa [rung_pos (by omega)] at hfr
        have hr := (word_facts hw).2.2.1
        have hcv := c1.uniq (V.pos hw)
        have hc0 : 0 ≤ c := by
          rw [hcv]
          exact (le_div UQ_pos).2 (by rw [Rat.zero_mul]; exact cast_nn _)
        refine ⟨c, c1, hc0, hw, ?_, fun h => by omega, fun _ => ?_⟩
        rotate_left
        · have m1 : pw n ≤ pw (-1) := pw_mono (by omega)
          have m2 : pw (-1) = 1 / 2 := by decide +kernel
          rw [m2] at m1
          exact low_c (by grind) (by grind) m1 c2
        rw [hr] at c3 ⊢
        rcases Nat.lt_or_ge 4503599627370496 (scaleF (riseSeq (expR f) 13) (clampN n)) with hb | hb
        · rw [c3 hb]
          exact err_exact hw q7 q8 q9 hvp (by rw [← c3 hb]; exact hcv)
        · exact err_small hb q7 q8 q9 hvp (by rw [ab_pos hc0]; exact hcv) c2
      · rcases scale_top q5 (by grind) hn (by omega) with h | ⟨h, h'⟩
        · left
          have htp : 0 < t * pw n := Rat.mul_pos (by grind) hp
          have hw := posW h htp
          have hr := (word_facts hw).2.2.1
          refine ⟨_, h, Rat.le_of_lt htp, hw, ?_, fun h1 => ?_, fun h => by omega⟩
          rotate_left
          · have m1 : pw 1 ≤ pw n := pw_mono h1
            rw [pw_one] at m1
            exact high_c (by grind) m1
          rw [hr]
          exact err_exact hw q7 q8 q9 hvp (h.uniq (V.pos hw))
        · right
          exact ⟨h, big_true q7 q9 hvp h'⟩
    · rw [if_pos rfl]
      left
      have h0 := hf.order_neg (g := 4649765536573549445) k2 (by decide)
      have hw := word_ge (w := 4649765536573549445) (N := 1074 * 26814832747904039722237046) (D := 38685626227668133590597632) (by decide) (by decide +kernel)
      have hx := XX_least (a := a) (by
        have e : (1074 : Rat) * L2 = ((1074 * 26814832747904039722237046 : Nat) : Rat) / ((38685626227668133590597632 : Nat) : Rat) := by rw [L2_one]; decide +kernel
        rw [e]; grind) (by grind)
      have hp := pw_pos (-1074)
      have v1 := (ab_le.1 hv.1).2
      have v2 := (ab_le.1 hv.1).1
      have tl : tw 62 ≤ 1 / 1000 := by decide +kernel
      have v3 := Rat.mul_le_mul_of_nonneg_right tl (Rat.le_of_lt hv.2)
      have hX := hv.2
      have hg : gapq 0 = pw (-1074) := by
        rw [gap_pw]; rfl
      have hr : rung 0 = 0 := by decide
      have hx0 : a ≤ -700 := by
        clear k1 k2 ha'
        have e : (700 : Rat) ≤ ((1074 * 26814832747904039722237046 : Nat) : Rat) / ((38685626227668133590597632 : Nat) : Rat) := by decide +kernel
        grind
      obtain ⟨n, r, _, n2, _, _, _, n6, _⟩ := exp_rest hf (Rat.le_trans ha (by decide +kernel))
      refine ⟨0, V_zero, Rat.le_refl, by decide, ?_, fun h => ?_, fun _ => by decide +kernel⟩
      rotate_left
      · exfalso
        rw [n2] at h
        exact no_up hx0 n6 h
      rw [hr, hg, show (0 : Rat) - v = -v by grind, ab_neg, ab_pos (by grind)]
      grind
  · rw [if_pos rfl]
    right
    refine ⟨rfl, ?_⟩
    have h0 := hf.order k1 (by decide)
    have hw := word_ge (w := 4649454594685214392 + 1) (N := 1024 * 26814832747904039722237046) (D := 38685626227668133590597632) (by decide) (by decide +kernel)
    have hx := XX_great (a := a) (by
        have e : (1024 : Rat) * L2 = ((1024 * 26814832747904039722237046 : Nat) : Rat) / ((38685626227668133590597632 : Nat) : Rat) := by rw [L2_one]; decide +kernel
        rw [e]; grind) (by grind)
    have v2 := (ab_le.1 hv.1).1
    have tl : tw 62 ≤ 1 / 128 * uu := by decide +kernel
    have v3 := Rat.mul_le_mul_of_nonneg_right tl (Rat.le_of_lt hv.2)
    have hM := pw_pos 1024
    generalize XX a = W at *
    generalize pw 1024 = M at *
    rw [uuv] at *
    grind
end Go.Proofs.YtcfkhhnkboealaaDoor
namespace Go.Proofs.YtcfkhhnkboealaaDoor
set_option linter.unusedVariables false
set_option linter.unusedSimpArgs false
set_option maxRecDepth 100000
open Turns Sizes
theorem gap_rel {r : Nat} (h : r < 9218868437227405312) : uu * ((mval r : Rat) / (U : Rat)) ≤ gapq r := by
  rw [gap_eq]
  obtain ⟨L, hL⟩ : ∃ L, L = r / 4503599627370496 - 1 := ⟨_, rfl⟩
  obtain ⟨q, hq⟩ : ∃ q, q = r - L * 4503599627370496 := ⟨_, rfl⟩
  have hr : r = L * 4503599627370496 + q := by omega
  have e0 : mval r = q * 2 ^ L := by rw [hr]; exact mval_plc (by omega) (by omega)
  rw [← hL]
  have h3 : mval r ≤ 9007199254740992 * 2 ^ L := by
    rw [e0]; exact Nat.mul_le_mul_right _ (by omega)
  have h4 := cast_le.2 h3
  rw [cast_mul] at h4
  have e9 : ((9007199254740992 : Nat) : Rat) = 9007199254740992 := by decide +kernel
  rw [e9] at h4
  have hU := UQ_pos
  rw [le_div hU]
  have a := div_self_mul (mval r : Rat) UQ_ne
  generalize (mval r : Rat) / (U : Rat) = x at *
  generalize ((2 ^ L : Nat) : Rat) = Z at *
  rw [uuv]
  grind
theorem et_two : 2 * et = pw (-(e1 : Int)) := by
  have a := et_U
  have b := pw_negnat e1
  rw [← U_def] at b
  have hne := UQ_ne
  have : (2 * et - pw (-(e1 : Int))) * (U : Rat) = 0 := by grind
  grind
theorem ee_13 : 2 * ee (3467 / 10000 : Rat) 13 ≤ 4 * uu := by unfold uu; decide +kernel
/-- what is left of the sum behind its 13th, by the argument's size. -/
theorem rest_small {r : Rat} (hr : ab r ≤ 3467 / 10000) : ab (TT r 60 - TT r 13) ≤ 4 / 14 * uu * ab r := by
  have a := nr_TT_sub r 13 47
  have b := tail_le' (ab_nn r) (n := 13) (by have e : ((13 + 2 : Nat) : Rat) = 15 := rfl
                                             rw [e]; grind) 47
  have c := ee_mono (ab_nn r) hr 13
  have d := ee_13
  have a' : ab (TT r 60 - TT r 13) ≤ TT (ab r) (13 + 47) - TT (ab r) 13 := a
  have b' : TT (ab r) (13 + 47) - TT (ab r) 13 ≤ 2 * ee (ab r) 14 := b
  have e : ee (ab r) 14 = ee (ab r) 13 * ab r * (1 / 14) := by
    rw [ee_rat]
    have e14 : ((14 : Nat) : Rat) = 14 := rfl
    grind
  have k := Rat.mul_le_mul_of_nonneg_right (show 2 * ee (ab r) 13 ≤ 4 * uu by grind) (ab_nn r)
  grind
theorem hh_12 {R : Nat} {r : Rat} (hR : V R r) (hr : ab r ≤ 3467 / 10000) : 8 / 10 ≤ hh r 12 ∧ r * hh r 12 = TT r 13 - 1 := by
  obtain ⟨t, ht, h1, h2⟩ := rise_upto hR hr 10 (by omega)
  have z3 : ((3 : Nat) : Rat) = 3 := rfl
  have z2 : ((2 : Nat) : Rat) = 2 := rfl
  have z1 : ((1 : Nat) : Rat) = 1 := rfl
  obtain ⟨b1, b2⟩ := hh_bound hr (k := 10) (d := 3) rfl (by omega) h2
  rw [z3] at b1
  have m1 : ab (hh r 11) ≤ 1128 / 1000 := by grind
  obtain ⟨c1, c2⟩ := hh_bound hr (k := 11) (d := 2) rfl (by omega) m1
  rw [z2] at c2
  have m2 : ab (hh r 12) ≤ 12 / 10 := by rw [z2] at c1; grind
  obtain ⟨d1, d2⟩ := hh_bound hr (k := 12) (d := 1) rfl (by omega) m2
  rw [z1, hh_13] at d2
  constructor
  · have k := ab_mul r (hh r 11)
    have k2 := Rat.mul_le_mul_of_nonneg_right hr (ab_nn (hh r 11))
    have k3 := (ab_of (r * hh r 11)).1
    rw [c2]
    grind
  · grind
theorem less_sum {f : Nat} {a v : Rat} (hf : V f a) (ha : ab a ≤ 3467 / 10000) (h0 : pw (-200) ≤ ab a) (hv : Rl v (XX a) (tw 300)) :
    ∃ l, V (fmul f (riseSeq f 12)) l ∧ ab (l - (v - 1)) ≤ 35 / 10 * (uu * ab a) ∧ 3 / 4 * ab a ≤ ab l := by
  obtain ⟨⟨t, ht, E1, E2⟩, _⟩ := rise_all hf ha
  obtain ⟨q1, q2⟩ := hh_12 hf ha
  have hu := uu_pos
  have us : uu ≤ 1 / 100000 := by decide +kernel
  have hB := BG_big
  have e1' := ab_le.1 E1
  have t1 : 79 / 100 ≤ t := by grind
  have t2 : t ≤ 12 / 10 := by
    have := (ab_of (hh a 12)).2
    grind
  have na := ab_nn a
  have hat : ab (a * t) = ab a * t := by rw [ab_mul, ab_pos (x := t) (by grind)]
  have k1 := Rat.mul_le_mul_of_nonneg_left t2 na
  have k2 := Rat.mul_le_mul_of_nonneg_left t1 na
  obtain ⟨l, hl, g1⟩ := hf.mul ht (by rw [hat]; grind)
  rw [hat] at g1
  have het : et ≤ 1 / 1000 * uu * ab a := by
    have x1 : et ≤ pw (-300) := by
      have := et_two
      have h3 : pw (-(e1 : Int)) ≤ pw (-300) := pw_mono (by rw [e1_eq]; decide)
      have := et_pos
      grind
    have x2 : pw (-300) ≤ 1 / 1000 * uu * pw (-200) := by decide +kernel
    have x3 := Rat.mul_le_mul_of_nonneg_left h0 (show 0 ≤ 1 / 1000 * uu by grind)
    grind
  have r1 := rest_small ha
  have hx := rl_trans hv (XX_TT (r := a) (by grind)) (by decide +kernel)
  have hx2 := (rl_mono hx (e := tw 259) (by decide +kernel)).1
  have hP := TT_range (p := a) ha
  have x4 : ab (v - TT a 60) ≤ 1 / 40 * uu * ab a := by
    have y1 := Rat.mul_le_mul_of_nonneg_left hP.2 (show 0 ≤ tw 259 by decide +kernel)
    have y2 : tw 259 * (1416 / 1000) ≤ 1 / 40 * uu * pw (-200) := by decide +kernel
    have y3 := Rat.mul_le_mul_of_nonneg_left h0 (show 0 ≤ 1 / 40 * uu by grind)
    grind
  -- all errors together
  have s1 : ab (a * t - a * hh a 12) ≤ 187 / 100 * uu * ab a := by
    rw [show a * t - a * hh a 12 = a * (t - hh a 12) by grind, ab_mul]
    have := Rat.mul_le_mul_of_nonneg_left E1 na
    grind
  rw [q2] at s1
  have hA : 0 ≤ uu * ab a := Rat.mul_nonneg (Rat.le_of_lt hu) na
  have k3 := Rat.mul_le_mul_of_nonneg_left k1 (Rat.le_of_lt hu)
  have T1 := ab_tri l (a * t) (TT a 13 - 1)
  have T2 := ab_tri l (TT a 13 - 1) (TT a 60 - 1)
  have T3 := ab_tri l (TT a 60 - 1) (v - 1)
  rw [show TT a 13 - 1 - (TT a 60 - 1) = TT a 13 - TT a 60 by grind, ab_comm (TT a 13)] at T2
  rw [show TT a 60 - 1 - (v - 1) = TT a 60 - v by grind, ab_comm (TT a 60)] at T3
  have tot : ab (l - (v - 1)) ≤ 35 / 10 * (uu * ab a) := by grind
  have low : 3 / 4 * ab a ≤ ab l := by
    have T4 := ab_tri (a * t) l 0
    rw [show a * t - 0 = a * t by grind, show l - 0 = l by grind, hat, ab_comm (a * t)] at T4
    have k4 := Rat.mul_le_mul_of_nonneg_right us na
    grind
  exact ⟨l, hl, tot, low⟩
theorem less_zero {f : Nat} {a v : Rat} (hf : V f a) (ha : ab a ≤ 3467 / 10000) (h0 : pw (-200) ≤ ab a) (hv : Rl v (XX a) (tw 300)) :
    ∃ l, V (fmul f (riseSeq f 12)) l ∧ 101 / 100 * ab (l - (v - 1)) ≤ 16 * gapq (rung (fmul f (riseSeq f 12))) := by
  obtain ⟨l, hl, tot, low⟩ := less_sum hf ha h0 hv
  refine ⟨l, hl, ?_⟩
  have hu := uu_pos
  have hsz := hl.size
  have gr := gap_rel (fin_rung hl.fin)
  rw [← hsz] at gr
  have k5 := Rat.mul_le_mul_of_nonneg_left low (Rat.le_of_lt hu)
  have hA : 0 ≤ uu * ab a := Rat.mul_nonneg (Rat.le_of_lt hu) (ab_nn a)
  grind
end Go.Proofs.YtcfkhhnkboealaaDoor
namespace Go.Proofs.YtcfkhhnkboealaaDoor
set_option linter.unusedVariables false
set_option linter.unusedSimpArgs false
set_option maxRecDepth 100000
open Turns Sizes
theorem sub_one {e : Nat} (h : e < 9218868437227405312) (k : 4607182418800017408 ≤ e) : fsub e 4607182418800017408 = rndN (mval e - U) := by
  obtain ⟨a1, a2, _, _, a5, _⟩ := word_facts h
  obtain ⟨b1, b2, _, _, b5, _⟩ := word_facts (show 4607182418800017408 < 9218868437227405312 by decide)
  have hm := mval_le_iff.2 k
  have h1 : mval 4607182418800017408 = U := mval_oneT
  rw [h1] at b5 hm
  rw [fsub_fin a1 b1 (by decide), a5, b5, a2, b2]
  have e1 : (if (mval e : Int) - (U : Int) = 0 then (false && !false) else decide ((mval e : Int) - (U : Int) < 0)) = false := by
    split
    · rfl
    · exact decide_eq_false (by omega)
  rw [e1, show ((mval e : Int) - (U : Int)).natAbs = mval e - U by omega]
  exact wd_false' _
theorem cast_sub' {a b : Nat} (h : b ≤ a) : ((a - b : Nat) : Rat) = (a : Rat) - (b : Rat) := by
  have : ((a - b + b : Nat) : Rat) = ((a - b : Nat) : Rat) + (b : Rat) := by grind
  rw [Nat.sub_add_cancel h] at this
  grind
theorem div_sub' (a b : Rat) : a / (U : Rat) - b / (U : Rat) = (a - b) / (U : Rat) := by
  have := UQ_ne
  grind
theorem pw_cong {a b : Int} (h : a = b) : pw a = pw b := by rw [h]
/-- up to 2^53 the difference is exact. -/
theorem less_mid {e : Nat} {v : Rat} (h1 : 4607182418800017408 ≤ e) (h2 : e / 4503599627370496 ≤ 1075) (h3 : 5 / 4 ≤ (mval e : Rat) / (U : Rat)) (h : 101 / 100 * ab ((mval e : Rat) / (U : Rat) - v) ≤ 4 * gapq e) :
    ∃ x, V (fsub e 4607182418800017408) x ∧ 101 / 100 * ab (x - (v - 1)) ≤ 16 * gapq (rung (fsub e 4607182418800017408)) := by
  have hfin : e < 9218868437227405312 := by omega
  rw [sub_one hfin h1]
  obtain ⟨L, hL⟩ : ∃ L, L = e / 4503599627370496 - 1 := ⟨_, rfl⟩
  obtain ⟨q, hq⟩ : ∃ q, q = e - L * 4503599627370496 := ⟨_, rfl⟩
  have hr : e = L * 4503599627370496 + q := by omega
  have b1 : 4503599627370496 ≤ q := by omega
  have b2 : q < 9007199254740992 := by omega
  have e0 : mval e = q * 2 ^ L := by rw [hr]; exact mval_plc (by omega) (.inr b1)
  have hU : U = 2 ^ (e1 - L) * 2 ^ L := by rw [← Nat.pow_add, U_def]; congr 1; rw [e1_eq]; omega
  have ed : mval e - U = (q - 2 ^ (e1 - L)) * 2 ^ L := by rw [e0, hU, Nat.sub_mul]
  have hx := rnd_exact (m := q - 2 ^ (e1 - L)) (k := L) (Nat.lt_of_le_of_lt (Nat.sub_le _ _) b2) (by omega)
  rw [← ed] at hx
  clear ed hU
  have hm : U ≤ mval e := by have := mval_le_iff.2 h1; rwa [mval_oneT] at this
  have hv := V.pos hx.1
  rw [hx.2] at hv
  have hUU : (U : Rat) / (U : Rat) = 1 := by have := UQ_ne; grind
  have ex : ((mval e - U : Nat) : Rat) / (U : Rat) = (mval e : Rat) / (U : Rat) - 1 := by
    rw [cast_sub' hm, ← div_sub', hUU]
  have hrr : rung (rndN (mval e - U)) = rndN (mval e - U) := rung_pos (by omega)
  rw [ex] at hv
  refine ⟨_, hv, ?_⟩
  rw [hrr, show (mval e : Rat) / (U : Rat) - 1 - (v - 1) = (mval e : Rat) / (U : Rat) - v by grind]
  refine Rat.le_trans h ?_
  have ge := gap_pw e
  rw [← hL] at ge
  have he := e1_eq
  have lo : pw ((L : Int) - 1022) ≤ (mval e : Rat) / (U : Rat) := by
    rw [le_div UQ_pos, e0, cast_mul, ← pw_nat L]
    have c1 := cast_le.2 b1
    have k : pw ((L : Int) - 1022) * (U : Rat) = pw 52 * pw (L : Int) := by
      have := pw_nat e1
      rw [← U_def] at this
      rw [← this, ← pw_add, ← pw_add]; exact pw_cong (by clear hx hm; omega)
    rw [k]
    have e52 : pw 52 = ((4503599627370496 : Nat) : Rat) := by decide +kernel
    rw [e52]
    exact Rat.mul_le_mul_of_nonneg_right c1 (Rat.le_of_lt (pw_pos _))
  have g := gap_ge (r := rndN (mval e - U)) (k := (L : Int) - 1024) hx.1 (by
    rw [hx.2, ex]
    have p4 : pw ((L : Int) - 1022) = 4 * pw ((L : Int) - 1024) := by
      have : pw 2 = 4 := by decide +kernel
      rw [← this, ← pw_add]; exact pw_cong (by clear hx hm; omega)
    have := pw_pos ((L : Int) - 1024)
    by_cases hl : L = 1022
    · have : pw ((L : Int) - 1024) = 1 / 4 := by
        rw [show (L : Int) - 1024 = -2 by clear hx hm; omega]
        decide +kernel
      rw [this]; grind
    · have g1 : pw 1 ≤ pw ((L : Int) - 1022) := pw_mono (by clear hx hm; omega)
      rw [pw_one] at g1
      grind)
  have p4 : pw ((L : Int) - (e1 : Int)) = 4 * pw ((L : Int) - 1024 - 52) := by
    have : pw 2 = 4 := by decide +kernel
    rw [← this, ← pw_add]; exact pw_cong (by clear hx hm; omega)
  rw [ge, p4]
  grind
/-- beyond 2^53 one is at most a step. -/
theorem less_top {e : Nat} {v : Rat} (h1 : 1076 ≤ e / 4503599627370496) (h2 : e < 9218868437227405312) (h : 101 / 100 * ab ((mval e : Rat) / (U : Rat) - v) ≤ 4 * gapq e) :
    ∃ x, V (fsub e 4607182418800017408) x ∧ 101 / 100 * ab (x - (v - 1)) ≤ 16 * gapq (rung (fsub e 4607182418800017408)) := by
  rw [sub_one h2 (by omega)]
  obtain ⟨d, hd⟩ : ∃ d, d + 1 = e := ⟨e - 1, by omega⟩
  have st := mval_step d
  rw [hd] at st
  obtain ⟨L, hL⟩ : ∃ L, L = d / 4503599627370496 - 1 := ⟨_, rfl⟩
  rw [← hL] at st
  have hUL : U ≤ 2 ^ L := by rw [U_def]; exact Nat.pow_le_pow_right (by decide) (by rw [e1_eq]; omega)
  have lo : mval d ≤ mval e - U := by
    generalize 2 ^ L = Z at *
    generalize U = u at *
    omega
  have r1 : d ≤ rndN (mval e - U) := le_rndN_of (by omega) lo
  have r2 : rndN (mval e - U) ≤ e := rndN_le_of h2 (Nat.sub_le _ _)
  clear lo
  generalize rndN (mval e - U) = l at *
  have hl : l < 9218868437227405312 := by clear hUL st; omega
  have hrr : rung l = l := rung_pos (by clear hUL st; omega)
  refine ⟨_, V.pos hl, ?_⟩
  rw [hrr]
  have gd := gap_eq d
  rw [← hL] at gd
  have g1 := gap_mono r1
  have g0 := gap_pos d
  have ge : gapq e ≤ 2 * gapq d := by
    rw [gd, gap_eq]
    have k : 2 ^ (e / 4503599627370496 - 1) ≤ 2 * 2 ^ L := by
      rw [← Nat.pow_succ']
      exact Nat.pow_le_pow_right (by decide) (by clear hUL st; omega)
    have k2 := cast_le.2 k
    rw [cast_mul] at k2
    rw [div_le UQ_pos]
    have a := div_self_mul ((2 ^ L : Nat) : Rat) UQ_ne
    have e2 : ((2 : Nat) : Rat) = 2 := rfl
    rw [e2] at k2
    generalize ((2 ^ L : Nat) : Rat) = Z at *
    grind
  have one : 1 ≤ gapq d := by
    rw [gd, le_div UQ_pos, Rat.one_mul]
    exact cast_le.2 hUL
  have up : (mval e : Rat) / (U : Rat) = (mval d : Rat) / (U : Rat) + gapq d := by
    rw [gd, st]
    have e3 : ((mval d + 2 ^ L : Nat) : Rat) = (mval d : Rat) + ((2 ^ L : Nat) : Rat) := by grind
    rw [e3]
    have := UQ_ne
    grind
  have x1 : (mval d : Rat) / (U : Rat) ≤ (mval l : Rat) / (U : Rat) := by
    rw [div_le UQ_pos, div_self_mul _ UQ_ne]
    exact cast_le.2 (mval_le_iff.2 r1)
  have x2 : (mval l : Rat) / (U : Rat) ≤ (mval e : Rat) / (U : Rat) := by
    rw [div_le UQ_pos, div_self_mul _ UQ_ne]
    exact cast_le.2 (mval_le_iff.2 r2)
  clear hUL st gd
  generalize (mval d : Rat) / (U : Rat) = D at *
  generalize (mval e : Rat) / (U : Rat) = E at *
  generalize (mval l : Rat) / (U : Rat) = X at *
  have t := ab_tri X E (v - 1)
  have t2 := ab_add (E - v) 1
  have e9 : ab 1 = 1 := by decide +kernel
  rw [show E - v + 1 = E - (v - 1) by grind, e9] at t2
  have t3 : ab (X - E) ≤ gapq d := by rw [ab_le]; constructor <;> grind
  grind
/-- below 3/4. -/
theorem less_low {e : Nat} {c v : Rat} (he : e < 9218868437227405312) (hc : V e c) (h0 : 0 ≤ c) (h1 : c ≤ 72 / 100) (h : 101 / 100 * ab (c - v) ≤ 4 * gapq e) :
    ∃ x, V (fsub e 4607182418800017408) x ∧ 101 / 100 * ab (x - (v - 1)) ≤ 16 * gapq (rung (fsub e 4607182418800017408)) := by
  have hone : V 4607182418800017408 1 := by
    have := V.of (f := 4607182418800017408) (by decide) (by decide)
    rwa [qv_one] at this
  have hB := BG_big
  have ab1 : ab (c - 1) ≤ 1 := by rw [ab_le]; constructor <;> grind
  obtain ⟨x, hx, k⟩ := hc.sub hone (Rat.le_trans ab1 (by grind))
  refine ⟨x, hx, ?_⟩
  have hu := uu_pos
  have us : uu ≤ 1 / 100000 := by decide +kernel
  have k2 := Rat.mul_le_mul_of_nonneg_left ab1 (Rat.le_of_lt hu)
  have low : 1 / 4 ≤ ab x := by
    have := (ab_le.1 k).2
    have := (ab_of x).1
    grind
  have g := gap_ge (k := -2) (fin_rung hx.fin) (by
    rw [← hx.size]
    have : pw (-2) = 1 / 4 := by decide +kernel
    rw [this]; exact low)
  have e2 : pw (-2 - 52) = 1 / 2 * uu := by decide +kernel
  rw [e2] at g
  have hv := hc.uniq (V.pos he)
  have lt1 : e ≤ 4607182418800017407 := by
    rcases Nat.lt_or_ge e 4607182418800017408 with m | m
    · omega
    · exfalso
      have := cast_le.2 (mval_le_iff.2 m)
      rw [mval_oneT] at this
      have hU := UQ_pos
      have a := div_self_mul (mval e : Rat) UQ_ne
      rw [← hv] at a
      have b := Rat.mul_le_mul_of_nonneg_right h1 (Rat.le_of_lt hU)
      grind
  have ge := gap_mono lt1
  have e3 : gapq 4607182418800017407 = uu := by
    rw [gap_pw]
    have : pw (-53) = uu := by decide +kernel
    rw [← this]
    rfl
  rw [e3] at ge
  have t := ab_tri x (c - 1) (v - 1)
  rw [show c - 1 - (v - 1) = c - v by grind] at t
  grind
/-- what the law asks of an exponential less one. -/
def LL (l : Nat) (v : Rat) : Prop := (∃ x, V l x ∧ 101 / 100 * ab (x - (v - 1)) ≤ 16 * gapq (rung l)) ∨ (l = infP ∧ pw 1024 * (1 - 498 / 100 * uu) ≤ v)
theorem less_law {f : Nat} {a v : Rat} (hf : V f a) (ha : ab a ≤ 750) (h0 : pw (-200) ≤ ab a) (hv : Rl v (XX a) (tw 300)) : LL (lessE f) v := by
  have hE := exp_law hf ha (rl_mono hv (by decide +kernel))
  obtain ⟨n, r, n1, n2, n3, n4, _, n6, _⟩ := exp_rest hf (Rat.le_trans ha (by decide +kernel))
  unfold lessE
  rw [fin_notN hf.fin, if_neg (by decide)]
  cases k1 : flt 4649454594685214392 f
  · rw [if_neg (by decide), feq_zero (fin_notN n1.fin)]
    by_cases hz : rung (expN f) = 0
    · rw [decide_eq_true hz, if_pos rfl]
      left
      have hn : (n : Rat) = 0 := by
        have hs := n1.size
        rw [hz, mval_zero] at hs
        have e : ((0 : Nat) : Rat) / (U : Rat) = 0 := by
          have a := div_self_mul ((0 : Nat) : Rat) UQ_ne
          have := UQ_ne
          have e0 : ((0 : Nat) : Rat) = 0 := rfl
          rw [e0] at a ⊢
          grind
        rw [e] at hs
        have := (ab_le.1 (show ab (n : Rat) ≤ 0 by grind))
        grind
      rw [hn, Rat.zero_mul, show a - 0 = a by grind] at n6
      exact less_zero hf (by grind) h0 hv
    · rw [decide_eq_false hz, if_neg (by decide)]
      have hn : n ≠ 0 := by
        intro h
        rw [h] at n1
        exact hz (by
          have hs := n1.size
          have e : ab ((0 : Int) : Rat) = 0 := by decide +kernel
          rw [e] at hs
          have h2 := div_self_mul (mval (rung (expN f)) : Rat) UQ_ne
          rw [← hs, Rat.zero_mul] at h2
          have h3 : mval (rung (expN f)) ≤ mval 0 := by
            rw [mval_zero]
            apply cast_le.1
            have e0 : ((0 : Nat) : Rat) = 0 := rfl
            rw [e0, ← h2]
            exact Rat.le_refl
          have := mval_le_iff.1 h3
          omega)
      rw [n2] at hE
      rcases hE with ⟨c, c1, c2, c3, c4, c5, c6⟩ | ⟨c1, c2⟩
      · left
        have hr := (word_facts c3).2.2.1
        rw [hr] at c4
        have hcv := c1.uniq (V.pos c3)
        rcases Int.lt_or_le n 0 with hneg | hpos
        · exact less_low c3 c1 c2 (c6 (by omega)) c4
        · have h54 := c5 (by omega)
          rw [hcv] at c4 h54
          rcases Nat.lt_or_ge (expF f / 4503599627370496) 1076 with m | m
          · refine less_mid ?_ (by omega) h54 c4
            rcases Nat.lt_or_ge (expF f) 4607182418800017408 with q | q
            · exfalso
              have := cast_le.2 (mval_le_iff.2 (Nat.le_of_lt q))
              rw [mval_oneT] at this
              have hU := UQ_pos
              rw [le_div hU] at h54
              grind
            · exact q
          · exact less_top m c3 c4
      · right
        refine ⟨?_, c2⟩
        rw [c1]
        decide +kernel
  · rw [if_pos rfl]
    right
    refine ⟨rfl, ?_⟩
    rcases hE with ⟨c, c1, _⟩ | h
    · exfalso
      have hi : expF f = infP := by
        unfold expF
        rw [fin_notN hf.fin, if_neg (by decide), k1, if_pos rfl]
      rw [hi] at c1
      exact absurd c1.fin (by decide +kernel)
    · exact h.2
end Go.Proofs.YtcfkhhnkboealaaDoor
namespace Go.Proofs.YtcfkhhnkboealaaDoor
set_option linter.unusedVariables false
set_option linter.unusedSimpArgs false
set_option maxRecDepth 100000
open Turns Sizes
theorem beside_one : mval 4607182418800017407 * 9007199254740992 = 9007199254740991 * U ∧ mval 4607182418800017409 * 4503599627370496 = 4503599627370497 * U := by decide +kernel
theorem aux_up {u y m : Nat} (b : y * 4503599627370496 = 4503599627370497 * u) (h : 36028797018963968 * m ≤ 36028797018963968 * u + u) : m ≤ y := by omega
theorem aux_lo {u z m : Nat} (b : z * 9007199254740992 = 9007199254740991 * u) (h : 36028797018963968 * u ≤ 36028797018963968 * m + u) : z ≤ m := by omega
theorem aux_k1 {u z m : Nat} (b : z * 9007199254740992 = 9007199254740991 * u) (h : 36028797018963968 * u ≤ 36028797018963968 * m + u) (hu : 0 < u) (k : 2 * m ≤ z + u) : False := by omega
theorem aux_k2 {u y m : Nat} (b : y * 4503599627370496 = 4503599627370497 * u) (h : 36028797018963968 * m ≤ 36028797018963968 * u + u) (hu : 0 < u) (k : u + y ≤ 2 * m) : False := by omega
theorem three {r : Nat} (h1 : r ≤ 4607182418800017409) (h2 : 4607182418800017407 ≤ r) (h3 : r ≠ 4607182418800017407) (h4 : r ≠ 4607182418800017409) : r = 4607182418800017408 := by omega
theorem rnd_one {m : Nat} (h1 : 36028797018963968 * U ≤ 36028797018963968 * m + U) (h2 : 36028797018963968 * m ≤ 36028797018963968 * U + U) (hU : 0 < U) : rndN m = 4607182418800017408 := by
  refine three (rndN_le_of (by decide) (aux_up beside_one.2 h2)) (le_rndN_of (by decide) (aux_lo beside_one.1 h1)) (fun e => ?_) (fun e => ?_)
  · have k := rnd_below (m := m) (d := 0) e (by decide)
    rw [show 4607182418800017407 + 1 = 4607182418800017408 from rfl, mval_oneT, Nat.pow_zero, Nat.mul_one] at k
    exact aux_k1 beside_one.1 h1 hU k
  · have k := rnd_above (m := m) (d := 0) e (by decide) (by decide)
    rw [show 4607182418800017409 - 1 = 4607182418800017408 from rfl, mval_oneT, Nat.pow_zero, Nat.mul_one] at k
    exact aux_k2 beside_one.2 h2 hU k
theorem aux_m {s : Int} {u : Nat} (h1 : 36028797018963968 * s ≤ (u : Int)) (h2 : -(u : Int) ≤ 36028797018963968 * s) (hu : 0 < u) : 36028797018963968 * u ≤ 36028797018963968 * ((u : Int) + s).natAbs + u ∧ 36028797018963968 * ((u : Int) + s).natAbs ≤ 36028797018963968 * u + u ∧ ¬ ((u : Int) + s = 0) ∧ ¬ ((u : Int) + s < 0) := by omega
theorem one_add {g : Nat} {y : Rat} (hg : V g y) (hy : ab y ≤ 1 / 36028797018963968) : fadd 4607182418800017408 g = 4607182418800017408 := by
  obtain ⟨b1, b2, _, _, b5, _⟩ := word_facts (show 4607182418800017408 < 9218868437227405312 by decide)
  rw [mval_oneT] at b5
  have hU := UQ_pos
  have hv := hg.val
  unfold qv at hv
  have h := div_self_mul (sval g : Rat) UQ_ne
  rw [hv] at h
  obtain ⟨y1, y2⟩ := ab_le.1 hy
  have z1 := Rat.mul_le_mul_of_nonneg_right y1 (Rat.le_of_lt hU)
  have z2 := Rat.mul_le_mul_of_nonneg_right y2 (Rat.le_of_lt hU)
  rw [h] at z1 z2
  have hu : 0 < U := by
    rcases Nat.eq_zero_or_pos U with e | e
    · exfalso
      rw [e] at hU
      exact absurd hU (by decide +kernel)
    · exact e
  have c1 : (((36028797018963968 * sval g : Int)) : Rat) ≤ (((U : Nat) : Int) : Rat) := by
    rw [Rat.intCast_mul, Rat.intCast_natCast]
    have e : ((36028797018963968 : Int) : Rat) = 36028797018963968 := by decide +kernel
    rw [e]
    generalize (U : Rat) = u at *
    grind
  have c2 : (((-((U : Nat) : Int)) : Int) : Rat) ≤ ((36028797018963968 * sval g : Int) : Rat) := by
    rw [Rat.intCast_mul, Rat.intCast_neg, Rat.intCast_natCast]
    have e : ((36028797018963968 : Int) : Rat) = 36028797018963968 := by decide +kernel
    rw [e]
    generalize (U : Rat) = u at *
    grind
  obtain ⟨m1, m2, m3, m4⟩ := aux_m (cast_le'.1 c1) (cast_le'.1 c2) hu
  rw [fadd_fin b1 hg.fin, b5, if_neg m3, decide_eq_false m4, rnd_one m1 m2 hu]
  exact wd_false' _
theorem V_one : V 4607182418800017408 1 := by
  have := V.of (f := 4607182418800017408) (by decide) (by decide)
  rwa [qv_one] at this
theorem rise_tiny {R : Nat} {r : Rat} (hR : V R r) (hr : ab r ≤ pw (-100)) : ∀ k : Nat, k ≤ 13 → riseSeq R k = 4607182418800017408
  | 0, _ => rfl
  | k + 1, hk => by
    have ih := rise_tiny hR hr k (by omega)
    show fadd 4607182418800017408 (fdiv (fmul R (riseSeq R k)) (ofInt (13 - (k : Int)))) = _
    rw [ih]
    obtain ⟨d, hd, d1, d2⟩ : ∃ d : Nat, (13 : Int) - (k : Int) = (d : Int) ∧ 1 ≤ d ∧ d ≤ 13 := ⟨13 - k, by omega, by omega, by omega⟩
    rw [hd]
    have hB := BG_big
    have us : uu ≤ 1 / 100000 := by decide +kernel
    have hp : pw (-100) ≤ 1 / 1000000000000000000000000 := by decide +kernel
    have h0 := ab_nn r
    obtain ⟨c, hc, g1⟩ := hR.mul V_one (by rw [Rat.mul_one]; grind)
    rw [Rat.mul_one] at g1
    have he : et ≤ 1 / 1000000000000000000000000 := by
      have h := et_tau
      have : (1 : Rat) / 1606938044258990275541962092341162602522202993782792835301376 ≤ 1 / 1000000000000000000000000 := by decide +kernel
      exact Rat.le_trans h this
    have k1 := Rat.mul_le_mul_of_nonneg_right us h0
    have t1 := ab_tri c r 0
    rw [show c - 0 = c by grind, show r - 0 = r by grind] at t1
    have hc1 : ab c ≤ 1 / 100000000000000000000000 := by grind
    have hdv := V.ofNat (k := d) (by omega)
    have q1 : (1 : Rat) ≤ (d : Rat) := by
      have := cast_le.2 d1
      have e : ((1 : Nat) : Rat) = 1 := rfl
      rwa [e] at this
    have hdp : (0 : Rat) < (d : Rat) := by grind
    have hq : ab (c / (d : Rat)) ≤ ab c := by
      rw [ab_div, ab_pos (x := (d : Rat)) (by grind), div_le hdp]
      have := Rat.mul_le_mul_of_nonneg_left q1 (ab_nn c)
      grind
    obtain ⟨y, hy, g2⟩ := hc.div hdv (by grind) (by grind)
    have k2 := Rat.mul_le_mul_of_nonneg_right us (ab_nn (c / (d : Rat)))
    have t2 := ab_tri y (c / (d : Rat)) 0
    rw [show y - 0 = y by grind, show c / (d : Rat) - 0 = c / (d : Rat) by grind] at t2
    refine one_add hy ?_
    generalize c / (d : Rat) = Z at *
    grind
theorem rung_zero {g : Nat} (h : V g 0) : rung g = 0 := by
  have hs := h.size
  have e : ab (0 : Rat) = 0 := by decide +kernel
  rw [e] at hs
  have h2 := div_self_mul (mval (rung g) : Rat) UQ_ne
  rw [← hs, Rat.zero_mul] at h2
  have h3 : mval (rung g) ≤ mval 0 := by
    rw [mval_zero]
    apply cast_le.1
    have e0 : ((0 : Nat) : Rat) = 0 := rfl
    rw [e0, ← h2]
    exact Rat.le_refl
  have := mval_le_iff.1 h3
  omega
theorem tiny_parts {f : Nat} {a : Rat} (hf : V f a) (ha : ab a ≤ pw (-150)) : V (expN f) 0 ∧ wInt (expN f) = 0 ∧ ∃ r, V (expR f) r ∧ ab r ≤ pw (-100) := by
  have hB := BG_big
  have us : uu ≤ 1 / 100000 := by decide +kernel
  have hp : pw (-150) ≤ 1 / 1000 * pw (-100) := by decide +kernel
  have hq : pw (-100) ≤ 1 / 1000 := by decide +kernel
  have hq0 := pw_pos (-100)
  obtain ⟨n, r, n1, n2, _, _, _, n6, _⟩ := exp_rest hf (by grind)
  have hn : n = 0 := by
    have l1 : 69 / 100 ≤ L2 := by decide +kernel
    have k := ab_le.1 n6
    have k0 := ab_le.1 (Rat.le_trans ha (show pw (-150) ≤ 1 / 1000 by grind))
    rcases Int.lt_trichotomy n 0 with h | h | h
    · exfalso
      have c1 := cast_le'.2 (show n ≤ -1 by omega)
      have c2 : ((-1 : Int) : Rat) = -1 := by decide +kernel
      rw [c2] at c1
      have c3 := Rat.mul_le_mul_of_nonneg_right c1 (show 0 ≤ L2 by grind)
      generalize (n : Rat) * L2 = Y at *
      grind
    · exact h
    · exfalso
      have c1 := cast_le'.2 (show 1 ≤ n by omega)
      have c2 : ((1 : Int) : Rat) = 1 := by decide +kernel
      rw [c2] at c1
      have c3 := Rat.mul_le_mul_of_nonneg_right c1 (show 0 ≤ L2 by grind)
      generalize (n : Rat) * L2 = Y at *
      grind
  subst hn
  have z : ((0 : Int) : Rat) = 0 := by decide +kernel
  rw [z] at n1
  refine ⟨n1, n2, ?_⟩
  have e0 : ab (0 : Rat) = 0 := by decide +kernel
  obtain ⟨c, hc, g1⟩ := n1.mul V.cH.1 (by rw [Rat.zero_mul, e0]; grind)
  obtain ⟨d, hd, g2⟩ := n1.mul V.cLo (by rw [Rat.zero_mul, e0]; grind)
  rw [Rat.zero_mul, e0, show c - 0 = c by grind, Rat.mul_zero] at g1
  rw [Rat.zero_mul, e0, show d - 0 = d by grind, Rat.mul_zero] at g2
  have he : et ≤ 1 / 1000 * pw (-100) := by
    have x1 : et ≤ pw (-300) := by
      have := et_two
      have h3 : pw (-(e1 : Int)) ≤ pw (-300) := pw_mono (by rw [e1_eq]; decide)
      have := et_pos
      grind
    have x2 : pw (-300) ≤ 1 / 1000 * pw (-100) := by decide +kernel
    exact Rat.le_trans x1 x2
  have a1 := ab_sub a c
  have b1 : ab (a - c) ≤ 3 / 1000 * pw (-100) := by grind
  obtain ⟨x, hx, g3⟩ := hf.sub hc (by grind)
  have k1 := Rat.mul_le_mul_of_nonneg_right us (ab_nn (a - c))
  have t1 := ab_tri x (a - c) 0
  rw [show x - 0 = x by grind, show a - c - 0 = a - c by grind] at t1
  have b2 : ab x ≤ 4 / 1000 * pw (-100) := by grind
  have a2 := ab_sub x d
  have b3 : ab (x - d) ≤ 6 / 1000 * pw (-100) := by grind
  obtain ⟨y, hy, g4⟩ := hx.sub hd (by grind)
  have k2 := Rat.mul_le_mul_of_nonneg_right us (ab_nn (x - d))
  have t2 := ab_tri y (x - d) 0
  rw [show y - 0 = y by grind, show x - d - 0 = x - d by grind] at t2
  exact ⟨y, hy, by grind⟩
theorem mul_one_f {f : Nat} {a : Rat} (hf : V f a) : fmul f 4607182418800017408 = f := by
  obtain ⟨k, hk, e⟩ : ∃ k, k = 1074 ∧ mval (rung 4607182418800017408) = 2 ^ k := by refine ⟨1074, rfl, ?_⟩; decide +kernel
  rw [fmul_fin hf.fin (by decide +kernel), e, ← hk, rndQ_cancel, rnd_mval (fin_rung hf.fin), show sgn 4607182418800017408 = false by decide +kernel, Bool.xor_false]
  exact (num_wd hf.lt).symm
theorem tiny_law {f : Nat} {a : Rat} (hf : V f a) (ha : ab a ≤ pw (-150)) : expF f = 4607182418800017408 ∧ lessE f = f := by
  obtain ⟨h1, h2, r, h3, h4⟩ := tiny_parts hf ha
  have hz := rung_zero h1
  have hr13 := rise_tiny h3 h4 13 (by decide)
  have hp : pw (-150) ≤ 1 / 1000 := by decide +kernel
  have ha1 := ab_le.1 (Rat.le_trans ha hp)
  have k1 : flt 4649454594685214392 f = false := by
    cases k : flt 4649454594685214392 f
    · rfl
    · exfalso
      have h0 := hf.order k (by decide)
      have hw := word_ge (w := 4649454594685214392 + 1) (N := 1) (D := 1) (by decide) (by decide +kernel)
      have e : ((1 : Nat) : Rat) / ((1 : Nat) : Rat) = 1 := by decide +kernel
      rw [e] at hw
      grind
  have k2 : flt f 13873137573428325253 = false := by
    cases k : flt f 13873137573428325253
    · rfl
    · exfalso
      have h0 := hf.order_neg (g := 4649765536573549445) k (by decide)
      have hw := word_ge (w := 4649765536573549445) (N := 1) (D := 1) (by decide) (by decide +kernel)
      have e : ((1 : Nat) : Rat) / ((1 : Nat) : Rat) = 1 := by decide +kernel
      rw [e] at hw
      grind
  constructor
  · unfold expF
    rw [fin_notN hf.fin, if_neg (by decide), k1, if_neg (by decide), k2, if_neg (by decide), hr13, h2]
    decide +kernel
  · unfold lessE
    have hr12 : riseSeq f 12 = 4607182418800017408 := rise_tiny hf (Rat.le_trans ha (pw_mono (by decide))) 12 (by decide)
    rw [fin_notN hf.fin, if_neg (by decide), k1, if_neg (by decide), feq_zero (fin_notN h1.fin), decide_eq_true hz, if_pos rfl, hr12]
    exact mul_one_f hf
end Go.Proofs.YtcfkhhnkboealaaDoor
namespace Go.Proofs.YtcfkhhnkboealaaDoor
set_option linter.unusedVariables false
set_option linter.unusedSimpArgs false
set_option maxRecDepth 100000
open Turns Sizes
theorem flt_nan {f g : Nat} (h : flt g f = true) : isN f = false ∧ isN g = false ∧ sval g < sval f := by
  rw [flt_eq] at h
  cases k : isN f <;> cases k2 : isN g <;> rw [k, k2] at h <;> simp_all
theorem flt_of {f g : Nat} (h1 : isN f = false) (h2 : isN g = false) (h : sval g < sval f) : flt g f = true := by
  rw [flt_eq, h1, h2]; simpa using h
theorem flt_not {f g : Nat} (h : ¬ sval g < sval f) : flt g f = false := by
  rw [flt_eq]; simp [h]
theorem neg_word {g : Nat} (hg : g < 9218868437227405312) : sval (g + 9223372036854775808) = -(mval g : Int) ∧ isN (g + 9223372036854775808) = false := by
  have g1 : sgn (g + 9223372036854775808) = true := by unfold sgn; simp; omega
  have g2 : rung (g + 9223372036854775808) = g := by unfold rung; omega
  refine ⟨by unfold sval; rw [g1, g2]; simp, ?_⟩
  apply fin_notN; unfold Proofs.YtcfkhhnkboealaaDoor.fin; rw [g2]; simpa using hg
theorem far_up {f : Nat} (h : flt 4649808285585637376 f = true) : expF f = infP ∧ lessE f = infP := by
  obtain ⟨hn, _, hs⟩ := flt_nan h
  obtain ⟨_, _, _, _, b5, _⟩ := word_facts (r := 4649808285585637376) (by decide)
  obtain ⟨_, _, _, c4, c5, _⟩ := word_facts (r := 4649454594685214392) (by decide)
  have k : flt 4649454594685214392 f = true := by
    refine flt_of hn c4 ?_
    rw [b5] at hs
    rw [c5]
    exact Int.lt_trans (Int.ofNat_lt.2 (mval_lt (by decide))) hs
  constructor
  · unfold expF; rw [hn, if_neg (by decide), k, if_pos rfl]
  · unfold lessE; rw [hn, if_neg (by decide), k, if_pos rfl]
theorem down_facts {f g : Nat} (hg : g < 9218868437227405312) (h : flt f (g + 9223372036854775808) = true) : isN f = false ∧ sgn f = true ∧ g < rung f := by
  obtain ⟨_, hn, hs⟩ := flt_nan h
  rw [(neg_word hg).1] at hs
  refine ⟨hn, ?_⟩
  rcases sval_cases f with ⟨a, b⟩ | ⟨a, b⟩
  · exfalso; rw [b] at hs; generalize mval g = x at *; generalize mval (rung f) = y at *; omega
  · refine ⟨a, mval_lt_iff.1 ?_⟩
    rw [b] at hs; generalize mval g = x at *; generalize mval (rung f) = y at *; omega
theorem whole_pos {g : Nat} (hl : g < 18446744073709551616) (hn : isN g = false) (h : 4607182418800017408 ≤ rung g) : isN (wholeF g) = false ∧ rung (wholeF g) ≠ 0 := by
  rcases Nat.lt_or_ge (rung g) 9218868437227405312 with k | k
  · have hf : Proofs.YtcfkhhnkboealaaDoor.fin g = true := by unfold Proofs.YtcfkhhnkboealaaDoor.fin; simpa using k
    rw [whole_eq hf]
    have h1 : U ≤ mval (rung g) := by have := mval_le_iff.2 h; rwa [mval_oneT] at this
    have h2 : 1 ≤ wholeN (rung g) := le_rne_of U_pos (by rw [Nat.one_mul]; exact h1)
    have h3 : rndN U ≤ rndN (wholeN (rung g) * U) := rndN_mono (Nat.le_mul_of_pos_left _ h2)
    have h4 : rndN U = 4607182418800017408 := by rw [← mval_oneT]; exact rnd_mval (by decide)
    have h5 : rndN (wholeN (rung g) * U) ≤ 9218868437227405312 := rndQ_le _ _
    refine ⟨wd_notN h5, ?_⟩
    rw [wd_rung h5]
    omega
  · have e : rung g = 9218868437227405312 := Nat.le_antisymm ((notN_iff g).1 hn) k
    rw [whole_inf hl e]
    exact ⟨hn, by rw [e]; decide⟩
theorem turned_ge {f : Nat} (hn : isN f = false) (h : 4607182418800017408 ≤ rung f) : isN (fmul f 4609176140021203710) = false ∧ fmul f 4609176140021203710 < 18446744073709551616 ∧ 4607182418800017408 ≤ rung (fmul f 4609176140021203710) := by
  rcases Nat.lt_or_ge (rung f) 9218868437227405312 with k | k
  · have hf : Proofs.YtcfkhhnkboealaaDoor.fin f = true := by unfold Proofs.YtcfkhhnkboealaaDoor.fin; simpa using k
    rw [fmul_fin hf (by decide +kernel)]
    have h5 : rndQ (mval (rung f) * mval (rung 4609176140021203710)) 1074 ≤ 9218868437227405312 := rndQ_le _ _
    refine ⟨wd_notN h5, wd_lt h5, ?_⟩
    rw [wd_rung h5]
    obtain ⟨q, hq, e⟩ : ∃ q, q = 1074 ∧ 2 ^ q ≤ mval (rung 4609176140021203710) := by refine ⟨1074, rfl, ?_⟩; decide +kernel
    rw [← hq]
    have h6 : rndQ (mval (rung f) * 2 ^ q) q ≤ rndQ (mval (rung f) * mval (rung 4609176140021203710)) q := rndQ_mono (Nat.mul_le_mul_left _ e)
    rw [rndQ_cancel, rnd_mval k] at h6
    exact Nat.le_trans h h6
  · have e : rung f = 9218868437227405312 := Nat.le_antisymm ((notN_iff f).1 hn) k
    rw [fmul_infl e (by decide +kernel), if_neg (by decide +kernel)]
    refine ⟨wd_notN (Nat.le_refl _), wd_lt (Nat.le_refl _), ?_⟩
    rw [wd_rung (Nat.le_refl _)]
    decide
theorem far_down {f : Nat} (h : flt f 13873180322440413184 = true) : expF f = 0 ∧ lessE f = 13830554455654793216 := by
  obtain ⟨hn, hs, hr⟩ := down_facts (g := 4649808285585637376) (by decide) h
  have hv : sval f = -(mval (rung f) : Int) := by unfold sval; rw [hs]; simp
  have k1 : flt 4649454594685214392 f = false := by
    apply flt_not
    rw [(word_facts (r := 4649454594685214392) (by decide)).2.2.2.2.1, hv]
    generalize mval 4649454594685214392 = x at *; generalize mval (rung f) = y at *; omega
  have k2 : flt f 13873137573428325253 = true := by
    have e := neg_word (g := 4649765536573549445) (by decide)
    refine flt_of (g := f) e.2 hn ?_
    rw [show (13873137573428325253 : Nat) = 4649765536573549445 + 9223372036854775808 from rfl, e.1, hv]
    have hm := mval_lt (Nat.lt_of_le_of_lt (show 4649765536573549445 ≤ 4649808285585637376 by decide) hr)
    generalize mval 4649765536573549445 = x at *; generalize mval (rung f) = y at *; omega
  have he : expF f = 0 := by unfold expF; rw [hn, if_neg (by decide), k1, if_neg (by decide), k2, if_pos rfl]
  refine ⟨he, ?_⟩
  obtain ⟨t1, t2, t3⟩ := turned_ge hn (by omega)
  obtain ⟨w1, w2⟩ := whole_pos t2 t1 t3
  have hz : feq (expN f) 0 = false := by
    show feq (wholeF (fmul f 4609176140021203710)) 0 = false
    rw [feq_zero w1]
    simpa using w2
  unfold lessE
  rw [hn, if_neg (by decide), k1, if_neg (by decide), hz, if_neg (by decide), he]
  decide +kernel
theorem not_far {f : Nat} (hl : f < 18446744073709551616) (hn : isN f = false) (h1 : flt 4649808285585637376 f = false) (h2 : flt f 13873180322440413184 = false) : V f (qv f) ∧ ab (qv f) ≤ 750 := by
  have hr : rung f ≤ 4649808285585637376 := by
    rcases Nat.lt_or_ge 4649808285585637376 (rung f) with k | k
    · exfalso
      have hm := mval_lt k
      rcases sval_cases f with ⟨_, b⟩ | ⟨_, b⟩
      · have := flt_of (f := f) (g := 4649808285585637376) hn (by decide +kernel) (by
          rw [b, (word_facts (r := 4649808285585637376) (by decide)).2.2.2.2.1]; exact Int.ofNat_lt.2 hm)
        rw [this] at h1; cases h1
      · have e := neg_word (g := 4649808285585637376) (by decide)
        have := flt_of (g := f) (f := 4649808285585637376 + 9223372036854775808) e.2 hn (by
          rw [e.1, b]; generalize mval 4649808285585637376 = x at *; generalize mval (rung f) = y at *; omega)
        rw [show (4649808285585637376 : Nat) + 9223372036854775808 = 13873180322440413184 from rfl] at this
        rw [this] at h2; cases h2
    · exact k
  have hf : Proofs.YtcfkhhnkboealaaDoor.fin f = true := by unfold Proofs.YtcfkhhnkboealaaDoor.fin; simp; omega
  have hv := V.of hl hf
  refine ⟨hv, ?_⟩
  rw [hv.size]
  have e : mval 4649808285585637376 = 750 * U := by decide +kernel
  have h3 := cast_le.2 (mval_le_iff.2 hr)
  rw [e, cast_mul] at h3
  have hU := UQ_pos
  rw [div_le hU]
  have e7 : ((750 : Nat) : Rat) = 750 := by decide +kernel
  grind
theorem pw200 : pw (-200) = (mval 3706462493325918208 : Rat) / (U : Rat) := by
  have e : mval 3706462493325918208 * 2 ^ 200 = U := by decide +kernel
  have e2 : ((mval 3706462493325918208 * 2 ^ 200 : Nat) : Rat) = (U : Rat) := by rw [e]
  have e3 : pw (-200) * ((2 ^ 200 : Nat) : Rat) = 1 := by decide +kernel
  rw [cast_mul] at e2
  have hU := UQ_ne
  have h := div_self_mul (mval 3706462493325918208 : Rat) hU
  generalize ((2 ^ 200 : Nat) : Rat) = Z at *
  generalize (mval 3706462493325918208 : Rat) / (U : Rat) = Y at *
  generalize (mval 3706462493325918208 : Rat) = X at *
  generalize (U : Rat) = T at *
  have : (pw (-200) - Y) * T = 0 := by grind
  grind
theorem not_both {f : Nat} (h : flt f 13873180322440413184 = true) : flt 4649808285585637376 f = false := by
  obtain ⟨hn, hs, hr⟩ := down_facts (g := 4649808285585637376) (by decide) h
  apply flt_not
  rw [(word_facts (r := 4649808285585637376) (by decide)).2.2.2.2.1]
  have hv : sval f = -(mval (rung f) : Int) := by unfold sval; rw [hs]; simp
  rw [hv]
  generalize mval 4649808285585637376 = x at *; generalize mval (rung f) = y at *; omega
theorem tiny_yes {f : Nat} (hl : f < 18446744073709551616) (hn : isN f = false) (h : flt (rung f) 3706462493325918208 = true) : V f (qv f) ∧ ab (qv f) ≤ pw (-150) := by
  obtain ⟨_, _, hs⟩ := flt_nan h
  have hr : rung f ≤ 9218868437227405312 := (notN_iff f).1 hn
  have e1 : sval (rung f) = (mval (rung f) : Int) := by
    rcases sval_cases (rung f) with ⟨a, b⟩ | ⟨a, b⟩
    · rw [b, rung_pos hr]
    · exfalso; unfold sgn at a; simp at a; omega
  rw [e1, (word_facts (r := 3706462493325918208) (by decide)).2.2.2.2.1] at hs
  have hlt := mval_lt_iff.1 (Int.ofNat_lt.1 hs)
  have hf : Proofs.YtcfkhhnkboealaaDoor.fin f = true := by unfold Proofs.YtcfkhhnkboealaaDoor.fin; simp; omega
  have hv := V.of hl hf
  refine ⟨hv, Rat.le_trans ?_ (pw_mono (show (-200 : Int) ≤ -150 by decide))⟩
  rw [hv.size, pw200]
  have h3 := cast_le.2 (mval_le_iff.2 (Nat.le_of_lt hlt))
  have hU := UQ_pos
  rw [div_le hU, div_self_mul _ UQ_ne]
  exact h3
theorem tiny_no {f : Nat} {a : Rat} (hv : V f a) (h : flt (rung f) 3706462493325918208 = false) : pw (-200) ≤ ab a := by
  have hr := fin_rung hv.fin
  rw [flt_words hr (by decide)] at h
  have h2 : 3706462493325918208 ≤ rung f := by simpa using h
  rw [hv.size, pw200]
  have h3 := cast_le.2 (mval_le_iff.2 h2)
  have hU := UQ_pos
  rw [div_le hU, div_self_mul _ UQ_ne]
  exact h3
/-- a float is at most 2^53 of the gaps behind it. -/
theorem mval_gap (r : Nat) : (mval r : Rat) / (U : Rat) ≤ 9007199254740992 * gapq r := by
  have h : mval r ≤ 9007199254740992 * 2 ^ (r / 4503599627370496 - 1) := by
    unfold mval
    split
    · rename_i h
      rw [show r / 4503599627370496 - 1 = 0 by omega]
      omega
    · exact Nat.mul_le_mul_right _ (by omega)
  have h2 := cast_le.2 h
  rw [cast_mul] at h2
  have hU := UQ_pos
  rw [gap_eq, div_le hU]
  have h3 := div_self_mul ((2 ^ (r / 4503599627370496 - 1) : Nat) : Rat) UQ_ne
  have e9 : ((9007199254740992 : Nat) : Rat) = 9007199254740992 := by decide +kernel
  grind
theorem less_room {l : Nat} {x y z : Rat} (hx : V l x) (h : 101 / 100 * ab (x - y) ≤ 16 * gapq (rung l)) (hz : ab (z - y) ≤ u4 * ab y) : 1001 / 1000 * ab (x - z) ≤ 16 * gapq (rung l) := by
  have h1 := mval_gap (rung l)
  rw [← hx.size] at h1
  have hg := gap_pos (rung l)
  generalize gapq (rung l) = G at *
  have t : u4 ≤ 1 / 9007199254740992000000 := by decide +kernel
  have n0 := ab_nn y
  have k1 := Rat.mul_le_mul_of_nonneg_right t n0
  have h2 := ab_le.1 hz
  have n1 := ab_nn (x - y)
  have a1 : ab y ≤ ab x + ab (x - y) := by
    have := ab_sub x (x - y)
    rw [show x - (x - y) = y by grind] at this
    exact this
  have a2 : ab (x - z) ≤ ab (x - y) + u4 * ab y := by
    have := ab_sub (x - y) (z - y)
    rw [show x - y - (z - y) = x - z by grind] at this
    grind
  grind
theorem Rl.mono {x y d e : Rat} (h : Rl x y d) (hd : d ≤ e) : Rl x y e := ⟨Rat.le_trans h.1 (Rat.mul_le_mul_of_nonneg_right hd (Rat.le_of_lt h.2)), h.2⟩
theorem raised_rl {v a : Rat} (h : Rl v (sqr 16 (TT (a * pw (-16)) 60)) (((3 ^ 16 : Nat) : Rat) * (150 * u4))) : Rl v (XX a) (tw 300) := by
  have e : pw (-16) = tw 16 := by decide +kernel
  rw [e] at h
  exact h.mono (by decide +kernel)
theorem p973 : (mval 8989184856231510016 : Rat) / (U : Rat) = pw 1024 * (4 * uu) := by
  obtain ⟨L, hL⟩ : ∃ L : Nat, L = 1995 := ⟨_, rfl⟩
  have h := mval_plc (L := L) (q := 4503599627370496) (by decide) (.inr (by decide))
  rw [show L * 4503599627370496 + 4503599627370496 = 8989184856231510016 by omega] at h
  have e := pw_sub L e1
  rw [show ((L : Nat) : Int) - ((e1 : Nat) : Int) = 921 by rw [e1_eq]; omega] at e
  have e2 : pw 1024 = 10141204801825835211973625643008 * pw 921 := by
    rw [show (1024 : Int) = 103 + 921 by omega, pw_add]
    have : pw 103 = 10141204801825835211973625643008 := by decide +kernel
    rw [this]
  rw [h, cast_mul, e2, e, ← U_def, uuv]
  have e9 : ((4503599627370496 : Nat) : Rat) = 4503599627370496 := by decide +kernel
  rw [e9]
  have := div_self_mul ((2 ^ L : Nat) : Rat) UQ_ne
  have hu := UQ_ne
  generalize ((2 ^ L : Nat) : Rat) = Z at *
  have b := div_self_mul (4503599627370496 * Z) UQ_ne
  have : (4503599627370496 * Z / (U : Rat) - 4503599627370496 * (Z / (U : Rat))) * (U : Rat) = 0 := by grind
  grind
/-- the mark below which no answer may be infinite. -/
theorem mark_lt {M v : Rat} (h : ab (M - (qv 9218868437227405311 - qv 8989184856231510016)) ≤ u4 * ab (qv 9218868437227405311 - qv 8989184856231510016)) (hv : pw 1024 * (1 - 498 / 100 * uu) ≤ v) : M < v := by
  have q1 : qv 9218868437227405311 = pw 1024 * (1 - uu) := by
    rw [← max_val]; exact (V.pos (r := 9218868437227405311) (by decide)).val
  have q2 : qv 8989184856231510016 = pw 1024 * (4 * uu) := by
    rw [← p973]; exact (V.pos (r := 8989184856231510016) (by decide)).val
  rw [q1, q2] at h
  have hu := uu_pos
  have hp := pw_pos 1024
  have t : u4 ≤ 1 / 1000000 * uu := by decide +kernel
  have u1 : uu ≤ 1 / 1000000 := by decide +kernel
  generalize pw 1024 = P at *
  have e : P * (1 - uu) - P * (4 * uu) = P * (1 - 5 * uu) := by grind
  rw [e, ab_pos (Rat.mul_nonneg (Rat.le_of_lt hp) (by grind))] at h
  have h2 := (ab_le.1 h).2
  have k0 : 0 ≤ P * (1 - 5 * uu) := Rat.mul_nonneg (Rat.le_of_lt hp) (by grind)
  have k1 := Rat.mul_le_mul_of_nonneg_right t k0
  have k3 := Rat.mul_pos hp hu
  have k4 : P * (1 - 5 * uu) ≤ P := by grind
  have k5 := Rat.mul_le_mul_of_nonneg_left k4 (show 0 ≤ 1 / 1000000 * uu by grind)
  have e2 : 1 / 1000000 * uu * P = 1 / 1000000 * (P * uu) := by grind
  have e3 : P * (1 - 5 * uu) = P - 5 * (P * uu) := by grind
  have e4 : P * (1 - 498 / 100 * uu) = P - 498 / 100 * (P * uu) := by grind
  rw [e2] at k5
  rw [e4] at hv
  generalize u4 * (P * (1 - 5 * uu)) = A at *
  generalize 1 / 1000000 * uu * (P * (1 - 5 * uu)) = B at *
  rw [e3] at h2
  generalize P * uu = Q at *
  clear e e2 e3 e4 q1 q2 k0 k4 h t u1 hu
  grind
theorem vnum {w k : Nat} (h : w < 9218868437227405312) (e : mval w = k * U) : V w (k : Rat) := by
  have hv := V.pos h
  have e2 : (mval w : Rat) / (U : Rat) = (k : Rat) := by
    rw [e, cast_mul]
    have h1 := div_self_mul ((k : Rat) * (U : Rat)) UQ_ne
    have hU := UQ_ne
    generalize (k : Rat) * (U : Rat) / (U : Rat) = Y at *
    have : (Y - (k : Rat)) * (U : Rat) = 0 := by grind
    grind
  rw [e2] at hv
  exact hv
theorem V.four : V 4616189618054758400 4 := by
  have h := vnum (w := 4616189618054758400) (k := 4) (by decide) (by decide +kernel)
  have e : ((4 : Nat) : Rat) = 4 := by decide +kernel
  rwa [e] at h
theorem V.five : V 4617315517961601024 5 := by
  have h := vnum (w := 4617315517961601024) (k := 5) (by decide) (by decide +kernel)
  have e : ((5 : Nat) : Rat) = 5 := by decide +kernel
  rwa [e] at h
theorem V.sixteen : V 4625196817309499392 16 := by
  have h := vnum (w := 4625196817309499392) (k := 16) (by decide) (by decide +kernel)
  have e : ((16 : Nat) : Rat) = 16 := by decide +kernel
  rwa [e] at h
theorem V.unit1 : V 4607182418800017408 1 := by
  have h := vnum (w := 4607182418800017408) (k := 1) (by decide) (by decide +kernel)
  have e : ((1 : Nat) : Rat) = 1 := by decide +kernel
  rwa [e] at h
theorem inf_fin {e : Nat} (h : isInf e 1 = false) (hl : e < 18446744073709551616) (h2 : Proofs.YtcfkhhnkboealaaDoor.fin e = true ∨ e = infP) : Proofs.YtcfkhhnkboealaaDoor.fin e = true := by
  rcases h2 with h2 | h2
  · exact h2
  · rw [infP_iff hl (by rw [h2]; decide +kernel)] at h
    simp [h2, infP] at h
theorem inf_not {e : Nat} (h : isInf e 1 = true) (hl : e < 18446744073709551616) (hf : Proofs.YtcfkhhnkboealaaDoor.fin e = true) : False := by
  rw [infP_iff hl (fin_notN hf)] at h
  have h2 : e = 9218868437227405312 := by simpa using h
  rw [h2] at hf
  exact absurd hf (by decide +kernel)
/-- all that the walk asks of an exponential. -/
theorem exp_all {f : Nat} {a : Rat} (hf : V f a) (ha : ab a ≤ 750) :
    isN (expF f) = false ∧ expF f < 18446744073709551616 ∧ flt (expF f) 0 = false ∧ (isInf (expF f) 1 = false → V (expF f) (qv (expF f))) ∧
    ∀ v, Rl v (XX a) (tw 62) → (isInf (expF f) 1 = false → 1001 / 1000 * ab (qv (expF f) - v) ≤ 4 * gapq (rung (expF f))) ∧ (isInf (expF f) 1 = true → pw 1024 * (1 - 498 / 100 * uu) ≤ v) := by
  have hX := XX_pos (Rat.le_trans ha (by decide +kernel) : ab a ≤ 1024)
  have h0 : Rl (XX a) (XX a) (tw 62) := by
    refine ⟨?_, hX⟩
    rw [show XX a - XX a = 0 by grind, show ab (0 : Rat) = 0 by decide +kernel]
    exact Rat.mul_nonneg (Rat.le_of_lt (tw_pos 62)) (Rat.le_of_lt hX)
  have key := exp_law hf ha h0
  have hF : Proofs.YtcfkhhnkboealaaDoor.fin (expF f) = true ∨ expF f = infP := by
    rcases key with ⟨c, c1, _⟩ | ⟨c1, _⟩
    · exact .inl c1.fin
    · exact .inr c1
  have hN : isN (expF f) = false := by
    rcases hF with h | h
    · exact fin_notN h
    · rw [h]; decide +kernel
  have hL : expF f < 18446744073709551616 := by
    rcases key with ⟨c, c1, _⟩ | ⟨c1, _⟩
    · exact c1.lt
    · rw [c1]; decide
  refine ⟨hN, hL, ?_, fun h => V.of hL (inf_fin h hL hF), fun v hv => ?_⟩
  · rcases key with ⟨c, c1, _, c3, _⟩ | ⟨c1, _⟩
    · rw [flt_words c3 (by decide)]; simp
    · rw [c1]; decide +kernel
  · rcases exp_law hf ha hv with ⟨c, c1, _, c3, c4, _⟩ | ⟨c1, c2⟩
    · refine ⟨fun _ => ?_, fun h => (inf_not h hL c1.fin).elim⟩
      rw [c1.val]
      have := ab_nn (c - v)
      grind
    · refine ⟨fun h => ?_, fun _ => c2⟩
      have := inf_fin h hL hF
      rw [c1] at this
      exact absurd this (by decide +kernel)
theorem less_all {f : Nat} {a : Rat} (hf : V f a) (ha : ab a ≤ 750) (h0 : pw (-200) ≤ ab a) :
    isN (lessE f) = false ∧ lessE f < 18446744073709551616 ∧ (isInf (lessE f) 1 = false → V (lessE f) (qv (lessE f))) ∧
    ∀ v, Rl v (XX a) (tw 300) → (isInf (lessE f) 1 = false → ∀ z, ab (z - (v - 1)) ≤ u4 * ab (v - 1) → 1001 / 1000 * ab (qv (lessE f) - z) ≤ 16 * gapq (rung (lessE f))) ∧ (isInf (lessE f) 1 = true → pw 1024 * (1 - 498 / 100 * uu) ≤ v) := by
  have hX := XX_pos (Rat.le_trans ha (by decide +kernel) : ab a ≤ 1024)
  have hR : Rl (XX a) (XX a) (tw 300) := by
    refine ⟨?_, hX⟩
    rw [show XX a - XX a = 0 by grind, show ab (0 : Rat) = 0 by decide +kernel]
    exact Rat.mul_nonneg (Rat.le_of_lt (tw_pos 300)) (Rat.le_of_lt hX)
  have key := less_law hf ha h0 hR
  have hF : Proofs.YtcfkhhnkboealaaDoor.fin (lessE f) = true ∨ lessE f = infP := by
    rcases key with ⟨c, c1, _⟩ | ⟨c1, _⟩
    · exact .inl c1.fin
    · exact .inr c1
  have hN : isN (lessE f) = false := by
    rcases hF with h | h
    · exact fin_notN h
    · rw [h]; decide +kernel
  have hL : lessE f < 18446744073709551616 := by
    rcases key with ⟨c, c1, _⟩ | ⟨c1, _⟩
    · exact c1.lt
    · rw [c1]; decide
  refine ⟨hN, hL, fun h => V.of hL (inf_fin h hL hF), fun v hv => ?_⟩
  rcases less_law hf ha h0 hv with ⟨c, c1, c2⟩ | ⟨c1, c2⟩
  · refine ⟨fun _ z hz => ?_, fun h => (inf_not h hL c1.fin).elim⟩
    rw [c1.val]
    exact less_room c1 c2 hz
  · refine ⟨fun h => ?_, fun _ => c2⟩
    have := inf_fin h hL hF
    rw [c1] at this
    exact absurd this (by decide +kernel)
end Go.Proofs.YtcfkhhnkboealaaDoor
