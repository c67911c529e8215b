/- There and back by exponential and logarithm; powers that take one another back: the plain laws. No text of the program. -/
import Derived.Test.YtcfkhhnkboealaaPc
import Derived.Test.YtcfkhhnkboealaaPow2
import Derived.Test.YtcfkhhnkboealaaSa
namespace Go.Proofs.Ytcfkhhnkboealaa
open Go.RowKit
set_option linter.unusedVariables false
set_option linter.unusedSimpArgs false
set_option maxRecDepth 100000
set_option maxHeartbeats 4000000
open Turns Sizes
def closeP (a b m : Nat) : Bool := fle (fabs (fsub a b)) m
theorem big1013 : 1000 * pw 1013 ≤ BG := by
  have e : BG = pw (kBG : Int) := by rw [pw_nat]; rfl
  have e2 : pw 10 = 1024 := by decide +kernel
  have e3 : pw 1023 = 1024 * pw 1013 := by rw [show (1023 : Int) = 10 + 1013 by decide, pw_add, e2]
  have m := pw_mono (a := 1023) (b := (kBG : Int)) (by rw [kBG_eq]; decide)
  have p := pw_pos 1013
  rw [e3] at m
  rw [e]
  generalize pw 1013 = z at *
  generalize pw (kBG : Int) = z2 at *
  grind
theorem et_1013 {c : Rat} (h : pw (-1013) ≤ c) : et ≤ 1 / 100 * (uu * c) := by
  have hu : 0 ≤ uu := by decide +kernel
  have a := Rat.mul_le_mul_of_nonneg_left h hu
  have e : et ≤ 1 / 100 * (uu * pw (-1013)) := by decide +kernel
  exact Rat.le_trans e (Rat.mul_le_mul_of_nonneg_left a (by decide +kernel))
theorem prod_big {c x : Rat} (h0 : 0 ≤ c) (h1 : c ≤ pw 1013) (hx : ab x ≤ 2) : ab (c * x) ≤ BG := by
  rw [ab_mul, ab_pos h0]
  have := mul_mono h0 h1 (ab_nn x) hx
  have := big1013
  have := pw_pos 1013
  generalize pw 1013 = z at *
  grind
theorem part_near {c C x P : Rat} (hc : 0 < c) (hC : ab C ≤ 1001 / 1000) (hx : ab (x - C) ≤ 61 / 10 * uu) (hP : ab (P - c * x) ≤ uu * ab (c * x) + et) (he : et ≤ 1 / 100 * (uu * c)) : ab (P - c * C) ≤ 72 / 10 * (uu * c) := by
  have hu : 0 < uu ∧ uu ≤ 1 / 10000000 := by decide +kernel
  have uc := Rat.mul_pos hu.1 hc
  have xa : ab x ≤ 1002 / 1000 := by
    have := ab_add (x - C) C
    rw [show x - C + C = x by grind] at this
    grind
  have k1 : ab (c * x) ≤ 1002 / 1000 * c := by
    rw [ab_mul, ab_pos (Rat.le_of_lt hc)]
    have := Rat.mul_le_mul_of_nonneg_left xa (Rat.le_of_lt hc)
    grind
  have k2 := Rat.mul_le_mul_of_nonneg_left k1 (Rat.le_of_lt hu.1)
  have k3 : ab (c * (x - C)) ≤ 61 / 10 * (uu * c) := by
    rw [ab_mul, ab_pos (Rat.le_of_lt hc)]
    have := Rat.mul_le_mul_of_nonneg_left hx (Rat.le_of_lt hc)
    grind
  have e : P - c * C = (P - c * x) + c * (x - C) := by grind
  have s := ab_add (P - c * x) (c * (x - C))
  rw [e]
  grind
/-- THE PLACE of a complex exponential. -/
theorem cexp_place {f g : Nat} {a y : Rat} (hf : V f a) (hg : V g y) (ha : ab a ≤ 700) (hy : ab y ≤ 3) :
    ∃ c P Q, V (cexpX f g) P ∧ V (cexpY f g) Q ∧ ab (c - XX a) ≤ 8 * (uu * c) ∧ pw (-1013) ≤ c ∧ c ≤ pw 1013 ∧ ab (P - c * (CS y).re) ≤ 72 / 10 * (uu * c) ∧ ab (Q - c * (CS y).im) ≤ 72 / 10 * (uu * c) := by
  obtain ⟨c, hc, h1, h2, h3, _⟩ := exp_close hf ha
  have hu : 0 < uu := by decide +kernel
  have c0 : 0 < c := by have := pw_pos (-1013); grind
  have uc := Rat.mul_pos hu c0
  unfold cexpX cexpY
  cases hz : feq g 0
  · rw [if_neg (by decide), if_neg (by decide)]
    obtain ⟨x, s, vx, vs, n1, n2⟩ := turn_near hg (Rat.le_trans hy (by decide +kernel))
    have up := unit_parts (b := y) (Rat.le_trans hy (by decide +kernel))
    have le2 : ∀ {x C : Rat}, ab C ≤ 1001 / 1000 → ab (x - C) ≤ 61 / 10 * uu → ab x ≤ 2 := by
      intro x C h h'
      have := ab_add (x - C) C
      rw [show x - C + C = x by grind] at this
      have : 61 / 10 * uu ≤ 1 / 1000 := by decide +kernel
      grind
    obtain ⟨P, vP, eP⟩ := hc.mul vx (prod_big (Rat.le_of_lt c0) h3 (le2 up.1 n1))
    obtain ⟨Q, vQ, eQ⟩ := hc.mul vs (prod_big (Rat.le_of_lt c0) h3 (le2 up.2 n2))
    have he := et_1013 h2
    exact ⟨c, P, Q, vP, vQ, h1, h2, h3, part_near c0 up.1 n1 eP he, part_near c0 up.2 n2 eQ he⟩
  · rw [if_pos rfl, if_pos rfl]
    rw [feq_zero (fin_notN hg.fin)] at hz
    have y0 := hg.of0 (of_decide_eq_true hz)
    subst y0
    have e1 : (CS 0).re = 1 := by rw [CS_zero]; rfl
    have e2 : (CS 0).im = 0 := by rw [CS_zero]; rfl
    refine ⟨c, c, 0, hc, hg, h1, h2, h3, ?_, ?_⟩
    · rw [e1, show c - c * 1 = 0 by grind, show ab (0 : Rat) = 0 by decide +kernel]; grind
    · rw [e2, show (0 : Rat) - c * 0 = 0 by grind, show ab (0 : Rat) = 0 by decide +kernel]; grind
theorem sq_wide {T c : Rat} (hT : 0 < T) (hc : 0 < c) (h1 : T * T ≤ (1 + 35 * uu) * (c * c)) (h2 : (1 - 35 * uu) * (c * c) ≤ T * T) : ab (T - c) ≤ 18 * (uu * c) := by
  have hu : 0 < uu ∧ uu ≤ 1 / 10000000 := by decide +kernel
  have uc := Rat.mul_le_mul_of_nonneg_right hu.2 (Rat.le_of_lt hc)
  have uc0 := Rat.mul_pos hu.1 hc
  have hcc := Rat.mul_pos hc hc
  have x1 : 0 ≤ uu * (c * c) := Rat.le_of_lt (Rat.mul_pos hu.1 hcc)
  have x2 : uu * (uu * (c * c)) ≤ 1 / 10000000 * (uu * (c * c)) := Rat.mul_le_mul_of_nonneg_right hu.2 x1
  have x3 : 0 ≤ uu * (uu * (c * c)) := Rat.mul_nonneg (Rat.le_of_lt hu.1) x1
  have a : T ≤ c + 18 * (uu * c) := by
    apply le_of_sq (by grind)
    have e : (c + 18 * (uu * c)) * (c + 18 * (uu * c)) = c * c + 36 * (uu * (c * c)) + 324 * (uu * (uu * (c * c))) := by grind
    rw [e]
    generalize uu * (uu * (c * c)) = z at *
    grind
  have b : c - 18 * (uu * c) ≤ T := by
    apply le_of_sq (Rat.le_of_lt hT)
    have e : (c - 18 * (uu * c)) * (c - 18 * (uu * c)) = c * c - 36 * (uu * (c * c)) + 324 * (uu * (uu * (c * c))) := by grind
    rw [e]
    generalize uu * (uu * (c * c)) = z at *
    grind
  rw [ab_le]
  constructor <;> grind
theorem sq_part {c C P : Rat} (hc : 0 < c) (hC : ab C ≤ 1001 / 1000) (h : ab (P - c * C) ≤ 72 / 10 * (uu * c)) : ab (P * P - c * c * (C * C)) ≤ 145 / 10 * (uu * (c * c)) := by
  have hu : 0 < uu ∧ uu ≤ 1 / 10000000 := by decide +kernel
  have uc := Rat.mul_pos hu.1 hc
  have ucc := Rat.mul_le_mul_of_nonneg_right hu.2 (Rat.le_of_lt hc)
  have e : P * P - c * c * (C * C) = (P - c * C) * (2 * (c * C) + (P - c * C)) := by grind
  have b : ab (2 * (c * C)) ≤ 2002 / 1000 * c := by
    rw [ab_mul, ab_mul, show ab (2 : Rat) = 2 by decide +kernel, ab_pos (Rat.le_of_lt hc)]
    have := Rat.mul_le_mul_of_nonneg_left hC (Rat.le_of_lt hc)
    grind
  have a := ab_add (2 * (c * C)) (P - c * C)
  have t : ab (2 * (c * C) + (P - c * C)) ≤ 2003 / 1000 * c := by grind
  rw [e, ab_mul]
  have m := mul_mono (ab_nn (P - c * C)) h (ab_nn _) t
  have e2 : 72 / 10 * (uu * c) * (2003 / 1000 * c) = 72 / 10 * 2003 / 1000 * (uu * (c * c)) := by grind
  rw [e2] at m
  have := Rat.mul_pos hu.1 (Rat.mul_pos hc hc)
  grind
/-- the length of the exponential, near. -/
theorem len_exp {p q : Nat} {P Q c C S a : Rat} (vp : V p P) (vq : V q Q) (ha : ab a ≤ 700) (h1 : ab (c - XX a) ≤ 8 * (uu * c)) (h2 : pw (-1013) ≤ c) (h3 : c ≤ pw 1013) (hC : ab C ≤ 1001 / 1000) (hS : ab S ≤ 1001 / 1000) (hl : ab (C * C + S * S - 1) ≤ tw 440)
    (hP : ab (P - c * C) ≤ 72 / 10 * (uu * c)) (hQ : ab (Q - c * S) ≤ 72 / 10 * (uu * c)) : ∃ T, V (lenF p q) T ∧ Rl T (XX a) (27 * uu) := by
  have hu : 0 < uu ∧ uu ≤ 1 / 10000000 := by decide +kernel
  have w : tw 440 ≤ 1 / 1000 * uu := by decide +kernel
  have c0 : 0 < c := by have := pw_pos (-1013); grind
  have cc := Rat.mul_pos c0 c0
  have s1 := ab_le.1 (sq_part c0 hC hP)
  have s2 := ab_le.1 (sq_part c0 hS hQ)
  have ucc := Rat.mul_pos hu.1 cc
  have l2 : ab (c * c * (C * C + S * S - 1)) ≤ 1 / 1000 * (uu * (c * c)) := by
    rw [ab_mul, ab_pos (Rat.le_of_lt cc)]
    have := Rat.mul_le_mul_of_nonneg_left (Rat.le_trans hl w) (Rat.le_of_lt cc)
    grind
  have l2' := ab_le.1 l2
  have N1 : P * P + Q * Q ≤ c * c + 30 * (uu * (c * c)) := by grind
  have N2 : c * c - 30 * (uu * (c * c)) ≤ P * P + Q * Q := by grind
  clear s1 s2 l2 l2' hl hC hS hP hQ
  have cl := mul_mono (Rat.le_of_lt (pw_pos (-1013))) h2 (Rat.le_of_lt (pw_pos (-1013))) h2
  have ch := mul_mono (Rat.le_of_lt c0) h3 (Rat.le_of_lt c0) h3
  rw [← pw_add] at cl ch
  have usm := Rat.mul_le_mul_of_nonneg_right hu.2 (Rat.le_of_lt cc)
  have e1 : 2 * pw (-2030) ≤ pw (-1013 + -1013) := by
    rw [show 2 * pw (-2030) = pw (-2029) by rw [← pw_one, ← pw_add]; rfl]
    exact pw_mono (by decide)
  have e2 : 2 * pw (1013 + 1013) ≤ pw 2030 := by
    rw [show 2 * pw (1013 + 1013) = pw 2027 by rw [← pw_one, ← pw_add]; rfl]
    exact pw_mono (by decide)
  obtain ⟨T, hT, T0, t1, t2⟩ := len_far vp vq (by generalize P * P + Q * Q = N at *; generalize c * c = M at *; grind) (by generalize P * P + Q * Q = N at *; generalize c * c = M at *; grind)
  refine ⟨T, hT, ?_⟩
  have uuN : ∀ {N : Rat}, N ≤ c * c + 30 * (uu * (c * c)) → uu * N ≤ 10001 / 10000 * (uu * (c * c)) := by
    intro N h
    have x1 := Rat.mul_le_mul_of_nonneg_left h (Rat.le_of_lt hu.1)
    have x2 := Rat.mul_le_mul_of_nonneg_right hu.2 (Rat.le_of_lt ucc)
    have e : uu * (c * c + 30 * (uu * (c * c))) = uu * (c * c) + 30 * (uu * (uu * (c * c))) := by grind
    rw [e] at x1
    clear e1 e2 cl ch N1 N2 usm h1 h2 h3 hT t1 t2 h
    generalize uu * (uu * (c * c)) = z at *
    generalize uu * (c * c) = z2 at *
    generalize uu * N = z3 at *
    grind
  have k := uuN N1
  have T1 : T * T ≤ (1 + 35 * uu) * (c * c) := by
    generalize P * P + Q * Q = N at *
    grind
  have T2 : (1 - 35 * uu) * (c * c) ≤ T * T := by
    clear T1 uuN N1 e1 e2 cl ch t1 usm
    generalize P * P + Q * Q = N at *
    grind
  have tc := sq_wide T0 c0 T1 T2
  have tr := ab_tri T c (XX a)
  have px := XX_pos (a := a) (Rat.le_trans ha (by decide +kernel))
  have h1' := ab_le.1 h1
  have ucs := Rat.mul_le_mul_of_nonneg_right hu.2 (Rat.le_of_lt c0)
  have cx : c ≤ 1001 / 1000 * XX a := by grind
  have ucx := Rat.mul_le_mul_of_nonneg_left cx (Rat.le_of_lt hu.1)
  refine ⟨?_, px⟩
  generalize uu * c = z at *
  grind
/-- a line that two turns are on. -/
theorem line_core {P Q c C S C' S' : Rat} (hc : 0 < c) (hC : ab C ≤ 1001 / 1000) (hS : ab S ≤ 1001 / 1000) (hC' : ab C' ≤ 1001 / 1000) (hS' : ab S' ≤ 1001 / 1000)
    (hP : ab (P - c * C) ≤ 72 / 10 * (uu * c)) (hQ : ab (Q - c * S) ≤ 72 / 10 * (uu * c)) (h0 : 0 < C' * P + S' * Q) (hI : ab (S' * P - C' * Q) ≤ 104 / 10 * uu * (C' * P + S' * Q)) :
    ab (S' * C - C' * S) ≤ 36 * uu ∧ -(1 / 1000) ≤ C' * C + S' * S := by
  have hu : 0 < uu ∧ uu ≤ 1 / 10000000 := by decide +kernel
  have uc := Rat.mul_pos hu.1 hc
  have ucs := Rat.mul_le_mul_of_nonneg_right hu.2 (Rat.le_of_lt hc)
  have pr : ∀ {x y : Rat}, ab x ≤ 1001 / 1000 → ab y ≤ 72 / 10 * (uu * c) → ab (x * y) ≤ 721 / 100 * (uu * c) := by
    intro x y h k
    rw [ab_mul]
    have := mul_mono (ab_nn x) h (ab_nn y) k
    grind
  have sz : ∀ {x y z : Rat}, ab x ≤ 1001 / 1000 → ab z ≤ 1001 / 1000 → ab (y - c * z) ≤ 72 / 10 * (uu * c) → ab (x * y) ≤ 1004 / 1000 * c := by
    intro x y z h k l
    have a := ab_add (y - c * z) (c * z)
    rw [show y - c * z + c * z = y by grind, ab_mul, ab_pos (Rat.le_of_lt hc)] at a
    have m := Rat.mul_le_mul_of_nonneg_left k (Rat.le_of_lt hc)
    rw [ab_mul]
    have := mul_mono (ab_nn x) h (ab_nn y) (show ab y ≤ 1002 / 1000 * c by grind)
    grind
  have p1 := pr hS' hP
  have p2 := pr hC' hQ
  have p3 := pr hC' hP
  have p4 := pr hS' hQ
  have z1 := (ab_le.1 (sz hC' hC hP)).2
  have z2 := (ab_le.1 (sz hS' hS hQ)).2
  have R1 : uu * (C' * P + S' * Q) ≤ 201 / 100 * (uu * c) := by
    have := Rat.mul_le_mul_of_nonneg_left (show C' * P + S' * Q ≤ 201 / 100 * c by grind) (Rat.le_of_lt hu.1)
    grind
  constructor
  · have e : c * (S' * C - C' * S) = (S' * P - C' * Q) + (-(S' * (P - c * C)) + C' * (Q - c * S)) := by grind
    have s1 := ab_add (S' * P - C' * Q) (-(S' * (P - c * C)) + C' * (Q - c * S))
    have s2 := ab_add (-(S' * (P - c * C))) (C' * (Q - c * S))
    rw [ab_neg] at s2
    have t : ab (c * (S' * C - C' * S)) ≤ 36 * (uu * c) := by
      rw [e]
      have e2 : 104 / 10 * uu * (C' * P + S' * Q) = 104 / 10 * (uu * (C' * P + S' * Q)) := by grind
      rw [e2] at hI
      generalize uu * (C' * P + S' * Q) = z at *
      grind
    rw [ab_mul, ab_pos (Rat.le_of_lt hc)] at t
    refine Rat.le_of_mul_le_mul_right (c := c) ?_ hc
    grind
  · have e : c * (C' * C + S' * S) = (C' * P + S' * Q) - C' * (P - c * C) - S' * (Q - c * S) := by grind
    have q3 := (ab_le.1 p3).2
    have q4 := (ab_le.1 p4).2
    have t : -(1 / 1000 * c) ≤ c * (C' * C + S' * S) := by
      rw [e]
      generalize C' * (P - c * C) = y1 at *
      generalize S' * (Q - c * S) = y2 at *
      generalize C' * P + S' * Q = y3 at *
      grind
    refine Rat.le_of_mul_le_mul_right (c := c) ?_ hc
    grind
/-- THE ANGLE of the exponential, near. -/
theorem angle_exp {p q : Nat} {P Q c y : Rat} (vp : V p P) (vq : V q Q) (hc : 0 < c) (hy : ab y ≤ 3)
    (hP : ab (P - c * (CS y).re) ≤ 72 / 10 * (uu * c)) (hQ : ab (Q - c * (CS y).im) ≤ 72 / 10 * (uu * c)) : ∃ t, V (ofF q p) t ∧ ab (t - y) ≤ 42 * uu := by
  have hu : 0 < uu ∧ uu ≤ 1 / 10000000 := by decide +kernel
  have uc := Rat.mul_pos hu.1 hc
  have ucs := Rat.mul_le_mul_of_nonneg_right hu.2 (Rat.le_of_lt hc)
  have up := unit_parts (b := y) (Rat.le_trans hy (by decide +kernel))
  have ln := (CS_len (y := y) (Rat.le_trans hy (by decide +kernel))).1
  -- not at nought
  have h0 : 0 < ab Q + ab P := by
    rcases (show 0 < ab Q + ab P ∨ ab Q + ab P ≤ 0 by grind) with q | q
    · exact q
    · exfalso
      have n1 := ab_nn P
      have n2 := ab_nn Q
      have small : ∀ {X Z : Rat}, ab X ≤ 0 → ab (X - c * Z) ≤ 72 / 10 * (uu * c) → Z * Z ≤ 1 / 100 := by
        intro X Z hX h
        have a := ab_sub X (X - c * Z)
        rw [show X - (X - c * Z) = c * Z by grind, ab_mul, ab_pos (Rat.le_of_lt hc)] at a
        have zb : ab Z ≤ 1 / 10 := by
          refine Rat.le_of_mul_le_mul_right (c := c) ?_ hc
          grind
        have m := mul_mono (ab_nn Z) zb (ab_nn Z) zb
        rw [sq_ab'] at m
        grind
      have k1 := small (show ab P ≤ 0 by grind) hP
      have k2 := small (show ab Q ≤ 0 by grind) hQ
      have ln' := (ab_le.1 ln).1
      have : tw 440 ≤ 1 / 10 := by decide +kernel
      grind
  obtain ⟨t, ht, l, _, rt, _, t4⟩ := of_ok vq vp h0
  obtain ⟨l0, l1⟩ := l
  have up' := unit_parts (b := t) (Rat.le_trans t4 (by decide +kernel))
  obtain ⟨k1, k2⟩ := line_core hc up.1 up.2 up'.1 up'.2 hP hQ l0 l1
  have tp : ab t ≤ 315 / 100 := by
    have UP := UQ_pos
    have e : (mval 4614256656552045848 : Rat) / (U : Rat) ≤ 315 / 100 := by decide +kernel
    refine Rat.le_trans ?_ e
    rw [ht.size, div_le UP, div_self_mul _ UQ_ne]
    exact cast_le.2 (mval_le_iff.2 rt)
  have tw440 : tw 440 ≤ 1 / 1000 * uu := by decide +kernel
  have tw60 : tw 60 ≤ 1 / 100 * uu := by decide +kernel
  have ad := CS_add (x := t) (y := -y) (Rat.le_trans t4 (by decide +kernel)) (by rw [ab_neg]; exact Rat.le_trans hy (by decide +kernel))
  rw [CS_neg, show t + -y = t - y by grind] at ad
  have ad' : ab ((CS t).re * (CS y).re - (CS t).im * -(CS y).im - (CS (t - y)).re) + ab ((CS t).re * -(CS y).im + (CS t).im * (CS y).re - (CS (t - y)).im) ≤ tw 440 := ad
  have n1 := ab_nn ((CS t).re * (CS y).re - (CS t).im * -(CS y).im - (CS (t - y)).re)
  have n2 := ab_nn ((CS t).re * -(CS y).im + (CS t).im * (CS y).re - (CS (t - y)).im)
  have d1 : ab ((CS t).re * (CS y).re - (CS t).im * -(CS y).im - (CS (t - y)).re) ≤ tw 440 := by grind
  have d2 : ab ((CS t).re * -(CS y).im + (CS t).im * (CS y).re - (CS (t - y)).im) ≤ tw 440 := by grind
  rw [show (CS t).re * (CS y).re - (CS t).im * -(CS y).im = (CS t).re * (CS y).re + (CS t).im * (CS y).im by grind] at d1
  rw [show (CS t).re * -(CS y).im + (CS t).im * (CS y).re = (CS t).im * (CS y).re - (CS t).re * (CS y).im by grind] at d2
  have im : ab (CS (t - y)).im ≤ 3601 / 100 * uu := by
    have s := ab_sub ((CS t).im * (CS y).re - (CS t).re * (CS y).im) ((CS t).im * (CS y).re - (CS t).re * (CS y).im - (CS (t - y)).im)
    rw [show (CS t).im * (CS y).re - (CS t).re * (CS y).im - ((CS t).im * (CS y).re - (CS t).re * (CS y).im - (CS (t - y)).im) = (CS (t - y)).im by grind] at s
    grind
  have re : -(1 / 2) ≤ (CS (t - y)).re := by
    have := (ab_le.1 d1).2
    have : tw 440 ≤ 1 / 100 := by decide +kernel
    grind
  have st := small_turn (d := t - y) (by have := ab_sub t y; grind) (by grind) re
  exact ⟨t, ht, by grind⟩
theorem V.P46 : V 4400016835940974592 (128 * uu) := by
  have h := vfrac (w := 4400016835940974592) (N := 1) (D := 70368744177664) (by decide) (by decide) (by decide +kernel)
  rw [show ((1 : Nat) : Rat) / ((70368744177664 : Nat) : Rat) = 128 * uu by decide +kernel] at h
  exact h
/-- closeness by value. -/
theorem close_val {x z m : Nat} {a b μ : Rat} (hx : V x a) (hz : V z b) (hm : V m μ) (h : 1001 / 1000 * ab (a - b) ≤ μ) (hb : ab (a - b) ≤ 1000) : closeP x z m = true := by
  have hu : 0 < uu ∧ uu ≤ 1 / 10000000 := by decide +kernel
  have hB := BG_big
  obtain ⟨d, hd, e⟩ := hx.sub hz (by grind)
  unfold closeP
  rw [fabs_of (fin_notN hd.fin), fle_val hd.absv hm]
  refine decide_eq_true ?_
  have s := ab_add (d - (a - b)) (a - b)
  rw [show d - (a - b) + (a - b) = d by grind] at s
  have := Rat.mul_le_mul_of_nonneg_right hu.2 (ab_nn (a - b))
  have n := ab_nn (a - b)
  generalize ab (a - b) = z at *
  grind
/-- THE LOGARITHM TAKES THE EXPONENTIAL BACK. -/
theorem back_one {f g : Nat} {a y : Rat} (hf : V f a) (hg : V g y) (ha : ab a ≤ 700) (hy : ab y ≤ 3) :
    closeP (clogX (cexpX f g) (cexpY f g)) f (fmul 4400016835940974592 (max 4607182418800017408 (rung f))) = true ∧ closeP (clogY (cexpX f g) (cexpY f g)) g (fmul 4400016835940974592 (max 4607182418800017408 (rung f))) = true := by
  have hu : 0 < uu ∧ uu ≤ 1 / 10000000 := by decide +kernel
  have he := et_uu
  have het : et ≤ 1 / 1000000 * (uu * uu) := by decide +kernel
  have hB := BG_big
  obtain ⟨c, P, Q, vp, vq, h1, h2, h3, k1, k2⟩ := cexp_place hf hg ha hy
  have c0 : 0 < c := by have := pw_pos (-1013); grind
  have up := unit_parts (b := y) (Rat.le_trans hy (by decide +kernel))
  have ln := (CS_len (y := y) (Rat.le_trans hy (by decide +kernel))).1
  obtain ⟨T, hT, rT⟩ := len_exp vp vq ha h1 h2 h3 up.1 up.2 ln k1 k2
  obtain ⟨l, hl, dl⟩ := log_back hT ha rT
  obtain ⟨t, ht, dt⟩ := angle_exp vp vq c0 hy k1 k2
  have na := ab_nn a
  -- the bound
  have v1 : V 4607182418800017408 1 := by
    have h := vnum (w := 4607182418800017408) (k := 1) (by decide) (by decide +kernel)
    exact h
  have hM : ∃ M, V (max 4607182418800017408 (rung f)) M ∧ 1 ≤ M ∧ ab a ≤ M ∧ M ≤ 700 := by
    have va := hf.absv
    rcases (show rung f ≤ 4607182418800017408 ∨ 4607182418800017408 ≤ rung f by omega) with q | q
    · rw [Nat.max_eq_left q]
      have := fle_val va v1
      have l1 := fin_rung hf.fin
      obtain ⟨b1, b2, b3, b4, b5, b6⟩ := word_facts l1
      obtain ⟨d1, d2, d3, d4, d5, d6⟩ := word_facts (r := 4607182418800017408) (by decide)
      rw [fle_eq, b4, d4, b5, d5] at this
      have m := mval_le_iff.2 q
      have e : decide ((mval (rung f) : Int) ≤ (mval 4607182418800017408 : Int)) = true := decide_eq_true (by omega)
      rw [e] at this
      exact ⟨1, v1, Rat.le_refl, of_decide_eq_true this.symm, by decide +kernel⟩
    · rw [Nat.max_eq_right q]
      have := fle_val v1 va
      have l1 := fin_rung hf.fin
      obtain ⟨b1, b2, b3, b4, b5, b6⟩ := word_facts l1
      obtain ⟨d1, d2, d3, d4, d5, d6⟩ := word_facts (r := 4607182418800017408) (by decide)
      rw [fle_eq, b4, d4, b5, d5] at this
      have m := mval_le_iff.2 q
      have e : decide ((mval 4607182418800017408 : Int) ≤ (mval (rung f) : Int)) = true := decide_eq_true (by omega)
      rw [e] at this
      exact ⟨ab a, va, of_decide_eq_true this.symm, Rat.le_refl, ha⟩
  obtain ⟨M, vM, M1, M2, M3⟩ := hM
  have uM : uu * M ≤ 1 / 10000 := by
    have := Rat.mul_le_mul_of_nonneg_left M3 (Rat.le_of_lt hu.1)
    grind
  have u1M := Rat.mul_le_mul_of_nonneg_left M1 (Rat.le_of_lt hu.1)
  have uaM := Rat.mul_le_mul_of_nonneg_left M2 (Rat.le_of_lt hu.1)
  have eM : ab (128 * uu * M) = 128 * (uu * M) := by
    rw [ab_pos (Rat.mul_nonneg (by grind) (by grind))]
    grind
  obtain ⟨m, hm, em⟩ := V.P46.mul vM (by rw [eM]; grind)
  rw [eM] at em
  have m1 : 127 * (uu * M) ≤ m := by
    have a := (ab_le.1 em).1
    have := Rat.mul_le_mul_of_nonneg_right hu.2 (show 0 ≤ 128 * (uu * M) by grind)
    have u2 := Rat.mul_le_mul_of_nonneg_left hu.2 (Rat.le_of_lt hu.1)
    generalize uu * (128 * (uu * M)) = z at *
    have e2 : 128 * uu * M = 128 * (uu * M) := by grind
    rw [e2] at a
    grind
  constructor
  · refine close_val hl hf hm ?_ ?_
    · generalize ab (l - a) = z at *
      grind
    · generalize ab (l - a) = z at *
      grind
  · refine close_val ht hg hm ?_ ?_
    · generalize ab (t - y) = z at *
      grind
    · generalize ab (t - y) = z at *
      grind
end Go.Proofs.Ytcfkhhnkboealaa
