/- The program's arctangent beside the line: first lines. No text of the program. The program's arctangent from 0 to 1. No text of the program. -/
import Derived.Test.YtcfkhhnkboealaaCfh
namespace Go.Proofs.Ytcfkhhnkboealaa
open Go.RowKit
set_option linter.unusedVariables false
set_option linter.unusedSimpArgs false
set_option maxRecDepth 100000
set_option maxHeartbeats 4000000
open Turns Sizes
open Cs (cnr)
theorem num_8 : ab ((sqC (sqC (sqC (c16, s16)))).1 - (sqC (sqC (sqC (c16, s16)))).2) ≤ tw 106 ∧ 7071 / 10000 ≤ (sqC (sqC (sqC (c16, s16)))).2 ∧ (sqC (sqC (sqC (c16, s16)))).2 ≤ 7072 / 10000 := by decide +kernel
theorem CS_three {y : Rat} {a : Rat × Rat} (h0 : 0 ≤ y) (h1 : y ≤ 1 / 10) (a0 : cnr (CS y - (⟨a.1, a.2⟩ : Cq)) ≤ tw 124) : cnr (CS (8 * y) - (⟨(sqC (sqC (sqC a))).1, (sqC (sqC (sqC a))).2⟩ : Cq)) ≤ 125 * tw 124 := by
  have t0 : tw 124 ≤ 1 / 1000000000 ∧ tw 430 ≤ tw 124 := by decide +kernel
  have tp := tw_pos 124
  have ph : ∀ k : Rat, 0 ≤ k → k ≤ 8 → ab (k * y) ≤ 2 := by
    intro k k0 k1
    rw [ab_pos (Rat.mul_nonneg k0 h0)]
    have := mul_mono k0 k1 h0 h1
    grind
  have a1 := CS_twice (y := y) (e := tw 124) (by have := ph 1 (by decide +kernel) (by decide +kernel); rwa [Rat.one_mul] at this) a0 (by grind) t0.2
  rw [sqC_eq a] at a1
  have a2 := CS_twice (y := 2 * y) (e := 5 * tw 124) (ph 2 (by decide +kernel) (by decide +kernel)) a1 (by grind) (by grind)
  rw [sqC_eq] at a2
  have a3 := CS_twice (y := 2 * (2 * y)) (e := 5 * (5 * tw 124)) (by rw [show 2 * (2 * y) = 4 * y by grind]; exact ph 4 (by decide +kernel) (by decide +kernel)) a2 (by grind) (by grind)
  rw [sqC_eq, show 2 * (2 * (2 * y)) = 8 * y by grind] at a3
  exact Rat.le_trans a3 (by grind)
theorem half_join {x e : Rat} {Q : Rat × Rat} (h : cnr (CS x - (⟨Q.1, Q.2⟩ : Cq)) ≤ e) (b : ab (Q.1 - Q.2) ≤ tw 106 ∧ 7071 / 10000 ≤ Q.2 ∧ Q.2 ≤ 7072 / 10000) : ∃ q, 7071 / 10000 ≤ q ∧ q ≤ 7072 / 10000 ∧ cnr (CS x - (⟨q, q⟩ : Cq)) ≤ e + tw 106 := by
  refine ⟨Q.2, b.2.1, b.2.2, ?_⟩
  have b' : cnr ((⟨Q.1, Q.2⟩ : Cq) - (⟨Q.2, Q.2⟩ : Cq)) ≤ tw 106 := by
    show ab (Q.1 - Q.2) + ab (Q.2 - Q.2) ≤ tw 106
    rw [show Q.2 - Q.2 = 0 by grind, show ab (0 : Rat) = 0 by decide +kernel]
    have := b.1
    grind
  have s := Cs.add (CS x - (⟨Q.1, Q.2⟩ : Cq)) ((⟨Q.1, Q.2⟩ : Cq) - (⟨Q.2, Q.2⟩ : Cq))
  rw [cq_via] at s
  grind
theorem h8_hp : 8 * h16 = hp * (1 / 2) := by decide +kernel
/-- HALF A QUARTER: the turn by hp / 2 is beside q (1 + i). -/
theorem CS_half : ∃ q, 7071 / 10000 ≤ q ∧ q ≤ 7072 / 10000 ∧ cnr (CS (hp * (1 / 2)) - (⟨q, q⟩ : Cq)) ≤ tw 104 := by
  have a := CS_three (a := (c16, s16)) h16_num.2.2.1 h16_num.2.2.2 (CS_16 h16_num)
  rw [h8_hp] at a
  obtain ⟨q, q1, q2, q3⟩ := half_join a num_8
  exact ⟨q, q1, q2, Rat.le_trans q3 (by decide +kernel)⟩
theorem pn_50 : pn (4144 / 10000) (2 * 25) ≤ tw 63 := by decide +kernel
/-- the near case: the turn back by a value near to the sum. -/
theorem line_near {t v δ : Rat} (ht : 0 ≤ t) (ht1 : t ≤ 4144 / 10000) (h : ab (v - BT t 25) ≤ δ) (hδ : δ ≤ 1 / 1000000) : 99 / 100 ≤ ((⟨1, t⟩ : Cq) * CS (-v)).re ∧ ab ((⟨1, t⟩ : Cq) * CS (-v)).im ≤ 3 * δ + tw 59 := by
  have p := pn_mono ht ht1 (2 * 25)
  have p50 := pn_50
  have pn0 := pn_nn ht (2 * 25)
  have t63 : tw 63 ≤ 1 / 100 ∧ tw 94 + 5 * (4144 / 10000 * tw 63) ≤ tw 61 ∧ 2 * tw 61 + 2 * tw 439 ≤ tw 59 ∧ tw 61 ≤ 1 / 1000 ∧ tw 439 ≤ 1 / 100000 := by decide +kernel
  obtain ⟨z1, z2⟩ := ZZ_all ht (by grind) 25 (by grind)
  have tp := mul_mono ht ht1 pn0 (Rat.le_trans p p50)
  have B := BT_size ht (by grind) 25
  have δ0 : 0 ≤ δ := Rat.le_trans (ab_nn _) h
  have near := CS_near (x := -(BT t 25)) (d := BT t 25 - v) (by rw [ab_neg]; grind) (by rw [ab_comm]; grind)
  rw [show -(BT t 25) + (BT t 25 - v) = -v by grind, ab_comm (BT t 25) v] at near
  have e1 : ((⟨1, t⟩ : Cq) * CS (-v)).re = 1 * (CS (-v)).re - t * (CS (-v)).im := rfl
  have e2 : ((⟨1, t⟩ : Cq) * CS (-v)).im = 1 * (CS (-v)).im + t * (CS (-v)).re := rfl
  have e3 : (ZZ t 25).re = 1 * (CS (-(BT t 25))).re - t * (CS (-(BT t 25))).im := rfl
  have e4 : (ZZ t 25).im = 1 * (CS (-(BT t 25))).im + t * (CS (-(BT t 25))).re := rfl
  rw [e1, e2]
  rw [e3] at z1
  rw [e4] at z2
  generalize (CS (-v)).re = R at *
  generalize (CS (-v)).im = I at *
  generalize (CS (-(BT t 25))).re = R0 at *
  generalize (CS (-(BT t 25))).im = I0 at *
  generalize t * pn t (2 * 25) = P at *
  obtain ⟨n1, n2⟩ := near
  have m1 : ab (R - R0) ≤ 1001 / 1000 * δ + tw 439 := by grind
  have m2 : ab (I - I0) ≤ 1001 / 1000 * δ + tw 439 := by grind
  have k1 : ab (t * (R - R0)) ≤ 1 * (1001 / 1000 * δ + tw 439) := by
    rw [ab_mul, ab_pos ht]
    exact mul_mono ht (by grind) (ab_nn _) m1
  have k2 : ab (t * (I - I0)) ≤ 1 * (1001 / 1000 * δ + tw 439) := by
    rw [ab_mul, ab_pos ht]
    exact mul_mono ht (by grind) (ab_nn _) m2
  have a1 := ab_le.1 m1
  have a2 := ab_le.1 k2
  have tI : t * (I - I0) = t * I - t * I0 := by grind
  have tR : t * (R - R0) = t * R - t * R0 := by grind
  rw [tI] at a2
  constructor
  · grind
  · have x := ab_add (1 * I0 + t * R0) ((I - I0) + t * (R - R0))
    rw [show 1 * I0 + t * R0 + (I - I0 + t * (R - R0)) = 1 * I + t * R by grind] at x
    have y := ab_add (I - I0) (t * (R - R0))
    grind
/-- the far case: half a quarter less the sum of the turned tangent. -/
theorem line_far {t u b δ : Rat} (hu : 0 ≤ u) (hu1 : u ≤ 4144 / 10000) (htu : t * (1 + u) = 1 - u) (h : ab (b - (hp * (1 / 2) - BT u 25)) ≤ δ) (hδ : δ ≤ 1 / 1000000) : 9 / 10 ≤ ((⟨1, t⟩ : Cq) * CS (-b)).re ∧ ab ((⟨1, t⟩ : Cq) * CS (-b)).im ≤ 5 * δ + tw 58 := by
  have p := pn_mono hu hu1 (2 * 25)
  have p50 := pn_50
  have pn0 := pn_nn hu (2 * 25)
  have t63 : tw 63 ≤ 1 / 100 ∧ tw 94 + 5 * (4144 / 10000 * tw 63) ≤ tw 61 ∧ tw 61 ≤ 1 / 1000 ∧ 2 * (2 * tw 439 + tw 440 + 21 / 10 * tw 104) + 3 * tw 61 ≤ tw 58 ∧ tw 58 ≤ 1 / 1000 := by decide +kernel
  have tp61 := tw_pos 61
  have tp439 := tw_pos 439
  obtain ⟨z1, z2⟩ := ZZ_all hu (by grind) 25 (by grind)
  have tp := mul_mono hu hu1 pn0 (Rat.le_trans p p50)
  have B := BT_size hu (by grind) 25
  have δ0 : 0 ≤ δ := Rat.le_trans (ab_nn _) h
  obtain ⟨q, q1, q2, q3⟩ := CS_half
  have hs := hp_size
  have t0 : 0 ≤ t ∧ t ≤ 1 := by
    constructor
    · rcases (show 0 ≤ t ∨ t < 0 by grind) with r | r
      · exact r
      · have := Rat.mul_le_mul_of_nonneg_right (Rat.le_of_lt r) (show 0 ≤ 1 + u by grind)
        grind
    · rcases (show t ≤ 1 ∨ 1 < t by grind) with r | r
      · exact r
      · have := Rat.mul_pos (show 0 < t - 1 by grind) (show 0 < 1 + u by grind)
        grind
  obtain ⟨y, hy⟩ : ∃ y, y = -(hp * (1 / 2)) + BT u 25 := ⟨_, rfl⟩
  have yb : ab y ≤ 2 := by
    have := ab_add (-(hp * (1 / 2))) (BT u 25)
    rw [← hy, ab_neg, ab_pos (show 0 ≤ hp * (1 / 2) by grind)] at this
    grind
  have near := CS_near (x := y) (d := -b - y) (by grind) (by rw [show -b - y = -(b - (hp * (1 / 2) - BT u 25)) by rw [hy]; grind, ab_neg]; grind)
  rw [show y + (-b - y) = -b by grind, show ab (-b - y) = ab (b - (hp * (1 / 2) - BT u 25)) by rw [show -b - y = -(b - (hp * (1 / 2) - BT u 25)) by rw [hy]; grind, ab_neg]] at near
  have add := CS_add (x := -(hp * (1 / 2))) (y := BT u 25) (by rw [ab_neg, ab_pos (show 0 ≤ hp * (1 / 2) by grind)]; grind) (by grind)
  rw [← hy, CS_neg] at add
  have hA : CS (BT u 25) = Cq.conj (CS (-(BT u 25))) := by rw [← CS_neg, show - -(BT u 25) = BT u 25 by grind]
  rw [hA] at add
  have len := (CS_len (y := -(BT u 25)) (by rw [ab_neg]; grind)).2
  obtain ⟨A, hAd⟩ : ∃ A : Cq, A = CS (-(BT u 25)) := ⟨_, rfl⟩
  obtain ⟨H, hHd⟩ : ∃ H : Cq, H = CS (hp * (1 / 2)) := ⟨_, rfl⟩
  have zz : ZZ u 25 = ⟨1, u⟩ * A := by rw [hAd]; rfl
  rw [zz] at z1 z2
  rw [← hAd] at add len
  rw [← hHd] at add q3
  have nF : cnr (CS (-b) - CS y) ≤ 2 * (1001 / 1000 * δ + tw 439) := by
    show ab ((CS (-b)).re - (CS y).re) + ab ((CS (-b)).im - (CS y).im) ≤ _
    have := near.1
    have := near.2
    grind
  have nG : cnr (Cq.conj H - (⟨q, -q⟩ : Cq)) ≤ tw 104 := by
    have : cnr (Cq.conj H - (⟨q, -q⟩ : Cq)) = cnr (H - (⟨q, q⟩ : Cq)) := by
      show ab (H.re - q) + ab (-H.im - -q) = ab (H.re - q) + ab (H.im - q)
      rw [show -H.im - -q = -(H.im - q) by grind, ab_neg]
    rw [this]; exact q3
  have nA : cnr (Cq.conj A) ≤ 21 / 10 := by
    have : cnr (Cq.conj A) = cnr A := by
      show ab A.re + ab (-A.im) = ab A.re + ab A.im
      rw [ab_neg]
    rw [this]; exact len
  obtain ⟨T, hT⟩ : ∃ T : Cq, T = ⟨1, t⟩ := ⟨_, rfl⟩
  have nT : cnr T ≤ 2 := by
    rw [hT]
    show ab 1 + ab t ≤ 2
    rw [show ab (1 : Rat) = 1 by decide +kernel, ab_pos t0.1]
    grind
  obtain ⟨k, hk⟩ : ∃ k, k = q * (1 + t) := ⟨_, rfl⟩
  have ku : k * u = q * (1 - t) := by
    have : (k * u - q * (1 - t)) * (1 + u) = 0 := by rw [hk]; grind
    have h2 : (1 + u) ≠ 0 := by grind
    grind
  have eq : T * (⟨q, -q⟩ * Cq.conj A) = (⟨k, 0⟩ : Cq) * Cq.conj (⟨1, u⟩ * A) := by
    rw [hT]
    refine Cq.eqs ⟨?_, ?_⟩
    · show 1 * (q * A.re - -q * -A.im) - t * (q * -A.im + -q * A.re) = k * (1 * A.re - u * A.im) - 0 * -(1 * A.im + u * A.re)
      have : k * (1 * A.re - u * A.im) = k * A.re - k * u * A.im := by grind
      rw [this, ku, hk]
      grind
    · show 1 * (q * -A.im + -q * A.re) + t * (q * A.re - -q * -A.im) = k * -(1 * A.im + u * A.re) + 0 * (1 * A.re - u * A.im)
      have : k * -(1 * A.im + u * A.re) = -(k * A.im) - k * u * A.re := by grind
      rw [this, ku, hk]
      grind
  -- all errors together
  have tot : cnr (T * CS (-b) - (⟨k, 0⟩ : Cq) * Cq.conj (⟨1, u⟩ * A)) ≤ 2 * (2 * (1001 / 1000 * δ + tw 439) + tw 440 + 21 / 10 * tw 104) := by
    rw [← eq]
    have e : T * CS (-b) - T * (⟨q, -q⟩ * Cq.conj A) = T * ((CS (-b) - CS y) + (-(Cq.conj H * Cq.conj A - CS y)) + (Cq.conj H - ⟨q, -q⟩) * Cq.conj A) := cq_far _ _ _ _ _ _
    rw [e]
    have s1 := Cs.mul T ((CS (-b) - CS y) + (-(Cq.conj H * Cq.conj A - CS y)) + (Cq.conj H - ⟨q, -q⟩) * Cq.conj A)
    have s2 := Cs.add ((CS (-b) - CS y) + (-(Cq.conj H * Cq.conj A - CS y))) ((Cq.conj H - ⟨q, -q⟩) * Cq.conj A)
    have s3 := Cs.add (CS (-b) - CS y) (-(Cq.conj H * Cq.conj A - CS y))
    rw [Cs.neg] at s3
    have s4 := Cs.mul (Cq.conj H - ⟨q, -q⟩) (Cq.conj A)
    have s5 := mul_mono (Cs.nn _) nG (Cs.nn _) nA
    have s6 := mul_mono (Cs.nn T) nT (Cs.nn _) (show cnr ((CS (-b) - CS y) + (-(Cq.conj H * Cq.conj A - CS y)) + (Cq.conj H - ⟨q, -q⟩) * Cq.conj A) ≤ 2 * (1001 / 1000 * δ + tw 439) + tw 440 + 21 / 10 * tw 104 by grind)
    exact Rat.le_trans s1 s6
  rw [← hT]
  have tot' : ab ((T * CS (-b)).re - (k * (⟨1, u⟩ * A : Cq).re - 0 * -(⟨1, u⟩ * A : Cq).im)) + ab ((T * CS (-b)).im - (k * -(⟨1, u⟩ * A : Cq).im + 0 * (⟨1, u⟩ * A : Cq).re)) ≤ 2 * (2 * (1001 / 1000 * δ + tw 439) + tw 440 + 21 / 10 * tw 104) := tot
  have k0 : 98 / 100 ≤ k ∧ k ≤ 1415 / 1000 := by
    have a1 : 1414 / 1000 ≤ (1 + t) * (1 + u) ∧ (1 + t) * (1 + u) = 2 := by
      constructor <;> grind
    have a2 : 1413 / 1000 ≤ 1 + t := by
      rcases (show 1413 / 1000 ≤ 1 + t ∨ 1 + t < 1413 / 1000 by grind) with r | r
      · exact r
      · have := mul_mono (show 0 ≤ 1 + t by grind) (Rat.le_of_lt r) (show 0 ≤ 1 + u by grind) (show 1 + u ≤ 14144 / 10000 by grind)
        grind
    have b1 := mul_mono (show (0 : Rat) ≤ 7071 / 10000 by decide +kernel) q1 (show (0 : Rat) ≤ 1413 / 1000 by decide +kernel) a2
    have b2 := mul_mono (show 0 ≤ q by grind) q2 (show 0 ≤ 1 + t by grind) (show 1 + t ≤ 2 by grind)
    rw [hk]
    constructor <;> grind
  generalize (T * CS (-b)).re = R at *
  generalize (T * CS (-b)).im = I at *
  generalize (⟨1, u⟩ * A : Cq).re = R0 at *
  generalize (⟨1, u⟩ * A : Cq).im = I0 at *
  generalize u * pn u (2 * 25) = P at *
  have kR := mul_mono (show (0 : Rat) ≤ 98 / 100 by decide +kernel) k0.1 (show (0 : Rat) ≤ 99 / 100 by decide +kernel) (show 99 / 100 ≤ R0 by grind)
  have kI : ab (k * -I0) ≤ 1415 / 1000 * (2 * tw 61) := by
    rw [ab_mul, ab_neg, ab_pos (show 0 ≤ k by grind)]
    exact mul_mono (by grind) k0.2 (ab_nn _) (by grind)
  have n1 := ab_nn (R - (k * R0 - 0 * -I0))
  have n2 := ab_nn (I - (k * -I0 + 0 * R0))
  clear tot eq nF nG nA nT add near zz hA
  constructor
  · have := (ab_le.1 (show ab (R - (k * R0 - 0 * -I0)) ≤ 2 * (2 * (1001 / 1000 * δ + tw 439) + tw 440 + 21 / 10 * tw 104) by grind)).1
    grind
  · have x := ab_add (I - (k * -I0 + 0 * R0)) (k * -I0)
    rw [show I - (k * -I0 + 0 * R0) + k * -I0 = I by grind] at x
    grind
end Go.Proofs.Ytcfkhhnkboealaa
namespace Go.Proofs.Ytcfkhhnkboealaa
open Go.RowKit
set_option linter.unusedVariables false
set_option linter.unusedSimpArgs false
set_option maxRecDepth 100000
set_option maxHeartbeats 4000000
open Turns Sizes
open Cs (cnr)
theorem BT_neg (x : Rat) : ∀ k, BT (-x) k = -BT x k
  | 0 => by simp only [BT]; grind
  | k + 1 => by
    have h := BT_neg x k
    have p := (pn_neg x k).2
    show BT (-x) k + sn k * (pn (-x) (2 * k + 1) / ((2 * k + 1 : Nat) : Rat)) = -(BT x k + sn k * (pn x (2 * k + 1) / ((2 * k + 1 : Nat) : Rat)))
    rw [h, p]
    grind
theorem BT_lip {x y : Rat} (hx : 0 ≤ x) (hy : 0 ≤ y) (hx1 : x ≤ 45 / 100) (hy1 : y ≤ 45 / 100) (h : ab (y - x) ≤ 1 / 1000) : ab (BT y 25 - BT x 25) ≤ 11 / 10 * ab (y - x) := by
  have go : ∀ a b : Rat, 0 ≤ a → a ≤ b → b ≤ 45 / 100 → b - a ≤ 1 / 1000 → ab (BT b 25 - BT a 25) ≤ 11 / 10 * (b - a) := by
    intro a b ha hab hb hs
    have d := BT_diff ha hab 25
    have g := GS_diff ha hab (by grind) 25
    have gs := GA_sum a 25
    have p0 := pn_nn ha (2 * 25)
    have p1 := pn_mono ha (show a ≤ 45 / 100 by grind) (2 * 25)
    have p2 : pn (45 / 100) (2 * 25) ≤ 1 / 1000 := by decide +kernel
    have sb : ab (sn 25 * pn a (2 * 25)) ≤ 1 / 1000 := by rw [ab_mul, sn_ab, Rat.one_mul, ab_pos p0]; grind
    have sb' := ab_le.1 sb
    have aa := Rat.mul_nonneg ha ha
    have ga : ab (GA a 25) ≤ 1001 / 1000 := by
      have h1 : ab (GA a 25) * (1 + a * a) ≤ 1001 / 1000 := by
        have : ab (GA a 25 * (1 + a * a)) = ab (GA a 25) * (1 + a * a) := by rw [ab_mul, ab_pos (show 0 ≤ 1 + a * a by grind)]
        rw [← this, gs, ab_le]
        constructor <;> grind
      have := Rat.mul_nonneg (ab_nn (GA a 25)) aa
      grind
    have m := Rat.mul_le_mul_of_nonneg_left g (show 0 ≤ b - a by grind)
    have m2 := Rat.mul_le_mul_of_nonneg_right hs (show 0 ≤ b - a by grind)
    have x := ab_add (BT b 25 - BT a 25 - (b - a) * GA a 25) ((b - a) * GA a 25)
    rw [show BT b 25 - BT a 25 - (b - a) * GA a 25 + (b - a) * GA a 25 = BT b 25 - BT a 25 by grind, ab_mul, ab_pos (show 0 ≤ b - a by grind)] at x
    have m3 := Rat.mul_le_mul_of_nonneg_left ga (show 0 ≤ b - a by grind)
    grind
  rcases (show x ≤ y ∨ y < x by grind) with q | q
  · have := go x y hx q hy1 (by rw [ab_pos (show 0 ≤ y - x by grind)] at h; exact h)
    rw [ab_pos (show 0 ≤ y - x by grind)]
    exact this
  · have e : ab (y - x) = x - y := by rw [ab_comm, ab_pos (show 0 ≤ x - y by grind)]
    have := go y x hy (Rat.le_of_lt q) hx1 (by rw [e] at h; exact h)
    rw [e, ab_comm]
    exact this
def H4 : Rat := ((884279719003555 : Nat) : Rat) / ((1125899906842624 : Nat) : Rat)
def L4 : Rat := ((4967757600021511 : Nat) : Rat) / ((162259276829213363391578010288128 : Nat) : Rat)
theorem quarters : H4 + L4 = hp * (1 / 2) ∧ fdiv 4614256656552045848 4616189618054758400 = 4605249457297304856 ∧ fdiv 4368955796522032135 4616189618054758400 = 4359948597267291143 ∧ 0 ≤ H4 ∧ H4 ≤ 8 / 10 ∧ 0 ≤ L4 ∧ L4 ≤ 1 / 1000000 := by decide +kernel
theorem V.H4 : V 4605249457297304856 H4 := vfrac (by decide) (by decide) (by decide +kernel)
theorem V.L4 : V 4359948597267291143 L4 := vfrac (by decide) (by decide) (by decide +kernel)
theorem quot_abs {x X D d q u : Rat} (hu : u * D = X) (hD : 1 ≤ D) (hD2 : D ≤ 2) (hx : ab (x - X) ≤ uu * ab X) (hd : ab (d - D) ≤ uu * ab D) (hq : ab (q - x / d) ≤ uu * ab (x / d) + et) (hub : ab u ≤ 4144 / 10000) : ab (q - u) ≤ 127 / 100 * uu := by
  have huu : 0 < uu ∧ uu ≤ 1 / 1000000000 := by decide +kernel
  have het := et_uu
  rw [ab_pos (show 0 ≤ D by grind)] at hd
  have k1 := Rat.mul_le_mul_of_nonneg_left hD2 (Rat.le_of_lt huu.1)
  have hd' := ab_le.1 hd
  have d0 : 9999 / 10000 ≤ d := by grind
  obtain ⟨y, hy⟩ : ∃ y, y = x / d := ⟨_, rfl⟩
  have hyd : y * d = x := by rw [hy]; exact div_self_mul _ (by grind)
  rw [← hy] at hq
  have un := ab_nn u
  have Xu : ab X = ab u * D := by rw [← hu, ab_mul, ab_pos (show 0 ≤ D by grind)]
  have e : (y - u) * d = (x - X) - u * (d - D) := by grind
  have e2 : ab (y - u) * d ≤ 2 * (uu * (ab u * D)) := by
    have : ab (y - u) * d = ab ((x - X) - u * (d - D)) := by rw [← e, ab_mul, ab_pos (show 0 ≤ d by grind)]
    rw [this]
    have a := ab_sub (x - X) (u * (d - D))
    rw [ab_mul u] at a
    have b := Rat.mul_le_mul_of_nonneg_left hd un
    rw [Xu] at hx
    grind
  have dD : D * (9999 / 10000) ≤ d := by grind
  have p := Rat.mul_nonneg (Rat.le_of_lt huu.1) un
  have yu : ab (y - u) ≤ 2001 / 1000 * (uu * ab u) := by
    have m := Rat.mul_le_mul_of_nonneg_left dD (ab_nn (y - u))
    refine Rat.le_of_mul_le_mul_right (c := D * (9999 / 10000)) ?_ (by grind)
    have pD := Rat.mul_nonneg p (show 0 ≤ D by grind)
    grind
  have k2 := Rat.mul_le_mul_of_nonneg_left hub (Rat.le_of_lt huu.1)
  have yb : ab y ≤ 415 / 1000 := by
    have a := ab_add (y - u) u
    rw [show y - u + u = y by grind] at a
    grind
  have k3 := Rat.mul_le_mul_of_nonneg_left yb (Rat.le_of_lt huu.1)
  have a := ab_tri q y u
  grind
/-- THE ARCTANGENT from 0 to 1: the turn back by it brings the place beside the line. -/
theorem core_line {f : Nat} {t : Rat} (hf : V f t) (hl : f < 9218868437227405312) (h1 : t ≤ 1) : ∃ b, V (coreF f) b ∧ 9 / 10 ≤ ((⟨1, t⟩ : Cq) * CS (-b)).re ∧ ab ((⟨1, t⟩ : Cq) * CS (-b)).im ≤ 33 * uu ∧ ab b ≤ 2 := by
  have huu : 0 < uu ∧ uu ≤ 1 / 1000000000 := by decide +kernel
  have het := et_uu
  have het0 := et_pos
  have hB := BG_big
  have t59 : tw 59 ≤ 1 / 10 * uu ∧ tw 58 ≤ 1 / 10 * uu := by decide +kernel
  obtain ⟨t0, ev, _⟩ := posV hf hl
  have hv := vfrac (w := 4601130706800738304) (N := 53) (D := 128) (by decide) (by decide) (by decide +kernel)
  have e53 : ((53 : Nat) : Rat) / ((128 : Nat) : Rat) = 53 / 128 := by decide +kernel
  rw [e53] at hv
  have ec := (posV hv (by decide)).2.1
  have hfar : farF f = decide (4601130706800738304 < f) := flt_words (by decide) hl
  unfold coreF coreV coreU
  rw [hfar]
  by_cases hc : 4601130706800738304 < f
  · rw [decide_eq_true hc, if_pos rfl, if_pos rfl]
    have tl : 53 / 128 ≤ t := by
      rw [ec, ev, div_le UQ_pos, div_self_mul _ UQ_ne]
      exact cast_le.2 (mval_le_iff.2 (Nat.le_of_lt hc))
    obtain ⟨x, hx, r1⟩ := hf.sub V.unit1 (by rw [ab_le]; clear ev ec; generalize BG = B at *; constructor <;> grind)
    obtain ⟨d, hd, r2⟩ := hf.add V.unit1 (by rw [ab_pos (show 0 ≤ t + 1 by grind)]; grind)
    obtain ⟨u, hu⟩ : ∃ u, u = (1 - t) / (1 + t) := ⟨_, rfl⟩
    have hut : u * (1 + t) = 1 - t := by rw [hu]; exact div_self_mul _ (by grind)
    have u0 : 0 ≤ u := by rw [hu, le_div (by grind)]; grind
    have u1 : u ≤ 41437 / 100000 := by rw [hu, div_le (by grind)]; grind
    have htu : t * (1 + u) = 1 - u := by grind
    have xb : ab x ≤ 1 := by
      have a := ab_add (x - (t - 1)) (t - 1)
      rw [show x - (t - 1) + (t - 1) = x by grind] at a
      have b : ab (t - 1) ≤ 6 / 10 := by rw [ab_le]; constructor <;> grind
      have k := Rat.mul_le_mul_of_nonneg_left b (Rat.le_of_lt huu.1)
      grind
    have db : 1 ≤ d := by
      have r2' := r2
      rw [ab_pos (show 0 ≤ t + 1 by grind)] at r2'
      have k := Rat.mul_le_mul_of_nonneg_left (show t + 1 ≤ 2 by grind) (Rat.le_of_lt huu.1)
      have := (ab_le.1 r2').1
      grind
    have xd : 2 * ab (x / d) ≤ BG := by
      rw [ab_div, ab_pos (show 0 ≤ d by grind)]
      have : ab x / d ≤ 1 := by rw [div_le (by grind)]; grind
      grind
    obtain ⟨q, hq, r3⟩ := hx.div hd (by grind) xd
    have qu := quot_abs (X := t - 1) (D := t + 1) (u := -u) (by grind) (by grind) (by grind) r1 r2 r3 (by rw [ab_neg, ab_pos u0]; grind)
    have qb : ab q ≤ 4144 / 10000 := by
      have a := ab_add (q - -u) (-u)
      rw [show q - -u + -u = q by grind, ab_neg, ab_pos u0] at a
      grind
    obtain ⟨v, hvv, r4⟩ := core_val hq qb
    have kq := Rat.mul_le_mul_of_nonneg_left qb (Rat.le_of_lt huu.1)
    have lip : ab (BT q 25 - BT (-u) 25) ≤ 14 / 10 * uu := by
      rcases (show q ≤ 0 ∨ 0 < q by grind) with c | c
      · have l := BT_lip (x := u) (y := -q) u0 (by grind) (by grind) (by have := ab_of q; grind) (by rw [show -q - u = -(q - -u) by grind, ab_neg]; grind)
        rw [show -q - u = -(q - -u) by grind, ab_neg] at l
        have e : BT q 25 = -BT (-q) 25 := by rw [BT_neg]; grind
        rw [e, BT_neg u, show -BT (-q) 25 - -BT u 25 = -(BT (-q) 25 - BT u 25) by grind, ab_neg]
        grind
      · have qs := ab_le.1 qu
        have l1 := BT_lip (x := 0) (y := q) Rat.le_refl (Rat.le_of_lt c) (by decide +kernel) (by have := ab_of q; grind) (by rw [show q - 0 = q by grind, ab_pos (Rat.le_of_lt c)]; grind)
        have l2 := BT_lip (x := 0) (y := u) Rat.le_refl u0 (by decide +kernel) (by grind) (by rw [show u - 0 = u by grind, ab_pos u0]; grind)
        rw [BT_zero, show q - 0 = q by grind, ab_pos (Rat.le_of_lt c), show BT q 25 - 0 = BT q 25 by grind] at l1
        rw [BT_zero, show u - 0 = u by grind, ab_pos u0, show BT u 25 - 0 = BT u 25 by grind] at l2
        have a := ab_sub (BT q 25) (BT (-u) 25)
        rw [BT_neg, ab_neg] at a
        rw [BT_neg]
        grind
    have vb : ab (v + BT u 25) ≤ 311 / 100 * uu := by
      have a := ab_add (v - BT q 25) (BT q 25 - BT (-u) 25)
      rw [show v - BT q 25 + (BT q 25 - BT (-u) 25) = v - BT (-u) 25 by grind, BT_neg, show v - -BT u 25 = v + BT u 25 by grind] at a
      rw [BT_neg] at lip
      clear hut htu hu ev ec r1 r2 r3 qu
      grind
    have Bu := BT_size u0 (show u ≤ 1 / 2 by grind) 25
    obtain ⟨hq1, hq2, hq3, c1, c2, c3, c4⟩ := quarters
    rw [hq2, hq3]
    obtain ⟨Z, hZ⟩ : ∃ Z, Z = BT u 25 := ⟨_, rfl⟩
    rw [← hZ] at vb Bu
    have vb' := ab_le.1 vb
    have Zb := ab_le.1 Bu
    have v1 : ab (v + L4) ≤ 11 / 10 := by rw [ab_le]; constructor <;> grind
    obtain ⟨m, hm, r5⟩ := hvv.add V.L4 (by grind)
    have k5 := Rat.mul_le_mul_of_nonneg_left v1 (Rat.le_of_lt huu.1)
    have r5' := ab_le.1 r5
    have m1 : ab (H4 + m) ≤ 2 := by rw [ab_le]; constructor <;> grind
    obtain ⟨b, hb, r6⟩ := V.H4.add hm (by grind)
    have k6 := Rat.mul_le_mul_of_nonneg_left m1 (Rat.le_of_lt huu.1)
    have r6' := ab_le.1 r6
    have c5 : H4 + L4 = hp * (1 / 2) := hq1
    have tot : ab (b - (hp * (1 / 2) - Z)) ≤ 63 / 10 * uu := by
      have a1 := ab_add (b - (H4 + m)) (m - (v + L4))
      have a2 := ab_add (b - (H4 + m) + (m - (v + L4))) (v + Z)
      rw [show b - (H4 + m) + (m - (v + L4)) + (v + Z) = b - (H4 + L4 - Z) by grind, c5] at a2
      clear hut htu hu ev ec r1 r2 r3 qu hq1 c5 r5' r6' vb' Zb lip
      grind
    rw [hZ] at tot
    obtain ⟨z1, z2⟩ := line_far u0 (by grind) htu tot (by grind)
    refine ⟨b, hb, z1, by grind, ?_⟩
    have hs := hp_size
    have tot' := ab_le.1 tot
    rw [← hZ] at tot'
    rw [ab_le]
    clear hut htu hu ev ec r1 r2 r3 qu hq1 c5 z1 z2
    constructor <;> grind
  · rw [decide_eq_false hc, if_neg (by decide), if_neg (by decide)]
    have tl : t ≤ 53 / 128 := by
      rw [ec, ev, div_le UQ_pos, div_self_mul _ UQ_ne]
      exact cast_le.2 (mval_le_iff.2 (by omega))
    obtain ⟨v, hvv, r4⟩ := core_val hf (by rw [ab_pos t0]; grind)
    rw [ab_pos t0] at r4
    have k := Rat.mul_le_mul_of_nonneg_left tl (Rat.le_of_lt huu.1)
    have r5 : ab (v - BT t 25) ≤ 2 * uu := by grind
    obtain ⟨a, b⟩ := line_near t0 (by grind) r5 (by grind)
    have B := BT_size t0 (by grind) 25
    refine ⟨v, hvv, by grind, by grind, ?_⟩
    have x := ab_add (v - BT t 25) (BT t 25)
    rw [show v - BT t 25 + BT t 25 = v by grind] at x
    grind
end Go.Proofs.Ytcfkhhnkboealaa
