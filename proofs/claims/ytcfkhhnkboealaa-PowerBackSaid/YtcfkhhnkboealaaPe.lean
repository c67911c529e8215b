/- Powers that take one another back; closeness; the greater of two floats. -/
import Derived.Test.YtcfkhhnkboealaaPd
namespace Go.Proofs.Ytcfkhhnkboealaa
open Go.RowKit
set_option linter.unusedVariables false
set_option linter.unusedSimpArgs false
set_option maxRecDepth 100000
set_option maxHeartbeats 4000000
open Turns Sizes
theorem part_off {c γ X : Rat} (hc : 0 < c) (hγ : ab γ ≤ 101 / 100) (hX : ab (X - c * γ) ≤ uu * ab (c * γ) + et) (he : et ≤ 1 / 100 * (uu * c)) : ab (X - c * γ) ≤ 102 / 100 * (uu * c) := by
  have hu : 0 < uu := by decide +kernel
  have k1 : ab (c * γ) ≤ 101 / 100 * c := by
    rw [ab_mul, ab_pos (Rat.le_of_lt hc)]
    have := Rat.mul_le_mul_of_nonneg_left hγ (Rat.le_of_lt hc)
    grind
  have k2 := Rat.mul_le_mul_of_nonneg_left k1 (Rat.le_of_lt hu)
  grind
/-- an exponential, and that of the other side. -/
theorem back_pair {u v : Nat} {a : Rat} (hu : V u a) (ha : ab a ≤ 700) (lv : v < 18446744073709551616) (hfin : Proofs.Ytcfkhhnkboealaa.fin (cexpX u v) = true) :
    ∃ c c' γ σ X Y X' Y', V (cexpX u v) X ∧ V (cexpY u v) Y ∧ V (cexpX (fneg u) (fneg v)) X' ∧ V (cexpY (fneg u) (fneg v)) Y' ∧ ab γ ≤ 101 / 100 ∧ ab σ ≤ 101 / 100 ∧ ab (γ * γ + σ * σ - 1) ≤ 26 * uu ∧
      ab (X - c * γ) ≤ 102 / 100 * (uu * c) ∧ ab (Y - c * σ) ≤ 102 / 100 * (uu * c) ∧ ab (X' - c' * γ) ≤ 102 / 100 * (uu * c') ∧ ab (Y' - c' * -σ) ≤ 102 / 100 * (uu * c') ∧
      ab (c - XX a) ≤ 8 * (uu * c) ∧ ab (c' - XX (-a)) ≤ 8 * (uu * c') ∧ pw (-1013) ≤ c ∧ c ≤ pw 1013 ∧ pw (-1013) ≤ c' ∧ c' ≤ pw 1013 := by
  obtain ⟨c, hc, h1, h2, h3, _⟩ := exp_close hu ha
  obtain ⟨c', hc', h1', h2', h3', _⟩ := exp_close hu.neg (by rw [ab_neg]; exact ha)
  have u0 : 0 < uu := by decide +kernel
  have c0 : 0 < c := by have := pw_pos (-1013); grind
  have c0' : 0 < c' := by have := pw_pos (-1013); grind
  have uc := Rat.mul_pos u0 c0
  have uc' := Rat.mul_pos u0 c0'
  have z0 : ab (0 : Rat) = 0 := by decide +kernel
  obtain ⟨tS, tC⟩ := turn_turn lv
  have hz' := feq0_neg v
  unfold cexpX at hfin
  unfold cexpX cexpY
  rw [hz']
  cases hz : feq v 0
  · rw [hz, if_neg (by decide)] at hfin
    rw [if_neg (by decide), if_neg (by decide), if_neg (by decide), if_neg (by decide)]
    have hfit : fit v = true := by
      cases e : fit v
      · rw [(turn_unfit e).2, fmul_nan (.inr (by decide +kernel))] at hfin
        exact absurd hfin (by decide +kernel)
      · rfl
    have hb := (fit_bd lv hfit).fin
    have hv := V.of lv hb
    have hy : ab (qv v) ≤ 1048576 := by
      have h20 := vnum (w := 4697254411347427328) (k := 1048576) (by decide) (by decide +kernel)
      have f2 : fle (fabs v) 4697254411347427328 = true := hfit
      rw [fabs_of (fin_notN hb), fle_val hv.absv h20] at f2
      exact of_decide_eq_true f2
    obtain ⟨γ, σ, vc, vs, g1, g2, g3⟩ := turn_len hv hfit hy
    obtain ⟨X, vX, eX⟩ := hc.mul vc (prod_big (Rat.le_of_lt c0) h3 (Rat.le_trans g1 (by decide +kernel)))
    obtain ⟨Y, vY, eY⟩ := hc.mul vs (prod_big (Rat.le_of_lt c0) h3 (Rat.le_trans g2 (by decide +kernel)))
    rw [tC, tS]
    have g2' : ab (-σ) ≤ 101 / 100 := by rw [ab_neg]; exact g2
    obtain ⟨X', vX', eX'⟩ := hc'.mul vc (prod_big (Rat.le_of_lt c0') h3' (Rat.le_trans g1 (by decide +kernel)))
    obtain ⟨Y', vY', eY'⟩ := hc'.mul vs.neg (prod_big (Rat.le_of_lt c0') h3' (Rat.le_trans g2' (by decide +kernel)))
    have he := et_1013 h2
    have he' := et_1013 h2'
    exact ⟨c, c', γ, σ, X, Y, X', Y', vX, vY, vX', vY', g1, g2, g3, part_off c0 g1 eX he, part_off c0 g2 eY he, part_off c0' g1 eX' he', part_off c0' g2' eY' he', h1, h1', h2, h3, h2', h3'⟩
  · rw [if_pos rfl, if_pos rfl, if_pos rfl, if_pos rfl]
    have hn : isN v = false := by
      rw [feq_eq] at hz
      cases e : isN v
      · rfl
      · rw [e] at hz; simp at hz
    rw [feq_zero hn] at hz
    have r0 := of_decide_eq_true hz
    have hf : Proofs.Ytcfkhhnkboealaa.fin v = true := by unfold Proofs.Ytcfkhhnkboealaa.fin; rw [r0]; rfl
    have hv := V.of lv hf
    have y0 := hv.of0 r0
    rw [y0] at hv
    refine ⟨c, c', 1, 0, c, 0, c', -0, hc, hv, hc', hv.neg, by decide +kernel, by decide +kernel, by decide +kernel, ?_, ?_, ?_, ?_, h1, h1', h2, h3, h2', h3'⟩
    · rw [show c - c * 1 = 0 by grind, z0]; grind
    · rw [show (0 : Rat) - c * 0 = 0 by grind, z0]; grind
    · rw [show c' - c' * 1 = 0 by grind, z0]; grind
    · rw [show (-0 : Rat) - c' * -0 = 0 by grind, z0]; grind
/-- a product of parts. -/
theorem prod_near {c c' x y X Y p : Rat} (hc : 0 < c) (hc' : 0 < c') (hx : ab x ≤ 101 / 100) (hy : ab y ≤ 101 / 100) (h1 : ab (X - c * x) ≤ 102 / 100 * (uu * c)) (h2 : ab (Y - c' * y) ≤ 102 / 100 * (uu * c'))
    (hcc : c * c' ≤ 1001 / 1000) (hp : ab (p - X * Y) ≤ uu * ab (X * Y) + et) : ab (p - c * c' * (x * y)) ≤ 33 / 10 * uu ∧ ab (X * Y) ≤ 103 / 100 := by
  have hu : 0 < uu ∧ uu ≤ 1 / 10000000 := by decide +kernel
  have he : et ≤ 1 / 1000000 * uu := by decide +kernel
  have e : X * Y - c * c' * (x * y) = (X - c * x) * (c' * y) + (c * x * (Y - c' * y) + (X - c * x) * (Y - c' * y)) := by grind
  have cc := Rat.mul_pos hc hc'
  have ucc := Rat.mul_pos hu.1 cc
  have a1 : ab (c' * y) ≤ 101 / 100 * c' := by
    rw [ab_mul, ab_pos (Rat.le_of_lt hc')]
    have := Rat.mul_le_mul_of_nonneg_left hy (Rat.le_of_lt hc')
    grind
  have a2 : ab (c * x) ≤ 101 / 100 * c := by
    rw [ab_mul, ab_pos (Rat.le_of_lt hc)]
    have := Rat.mul_le_mul_of_nonneg_left hx (Rat.le_of_lt hc)
    grind
  have b1 : ab ((X - c * x) * (c' * y)) ≤ 10302 / 10000 * (uu * (c * c')) := by
    rw [ab_mul]
    have := mul_mono (ab_nn _) h1 (ab_nn _) a1
    grind
  have b2 : ab (c * x * (Y - c' * y)) ≤ 10302 / 10000 * (uu * (c * c')) := by
    rw [ab_mul]
    have := mul_mono (ab_nn _) a2 (ab_nn _) h2
    grind
  have b3 : ab ((X - c * x) * (Y - c' * y)) ≤ 1 / 1000 * (uu * (c * c')) := by
    rw [ab_mul]
    have m := mul_mono (ab_nn _) h1 (ab_nn _) h2
    have e2 : 102 / 100 * (uu * c) * (102 / 100 * (uu * c')) = 102 * 102 / 10000 * (uu * (uu * (c * c'))) := by grind
    rw [e2] at m
    have := Rat.mul_le_mul_of_nonneg_right hu.2 (Rat.le_of_lt ucc)
    generalize uu * (uu * (c * c')) = z at *
    grind
  have s1 := ab_add ((X - c * x) * (c' * y)) (c * x * (Y - c' * y) + (X - c * x) * (Y - c' * y))
  have s2 := ab_add (c * x * (Y - c' * y)) ((X - c * x) * (Y - c' * y))
  have uc1 := Rat.mul_le_mul_of_nonneg_left hcc (Rat.le_of_lt hu.1)
  have d1 : ab (X * Y - c * c' * (x * y)) ≤ 21 / 10 * uu := by
    rw [e]
    generalize uu * (c * c') = z at *
    grind
  have sz : ab (c * c' * (x * y)) ≤ 1022 / 1000 := by
    rw [ab_mul, ab_pos (Rat.le_of_lt cc), ab_mul]
    have m := mul_mono (ab_nn x) hx (ab_nn y) hy
    have m2 := mul_mono (Rat.le_of_lt cc) hcc (Rat.mul_nonneg (ab_nn x) (ab_nn y)) m
    grind
  have t := ab_add (X * Y - c * c' * (x * y)) (c * c' * (x * y))
  rw [show X * Y - c * c' * (x * y) + c * c' * (x * y) = X * Y by grind] at t
  have XYb : ab (X * Y) ≤ 103 / 100 := by grind
  have m := Rat.mul_le_mul_of_nonneg_left XYb (Rat.le_of_lt hu.1)
  have t2 := ab_tri p (X * Y) (c * c' * (x * y))
  exact ⟨by grind, XYb⟩
/-- POWERS THAT TAKE ONE ANOTHER BACK. -/
theorem back_two {u v : Nat} {a : Rat} (hu : V u a) (ha : ab a ≤ 700) (lv : v < 18446744073709551616) (hfin : Proofs.Ytcfkhhnkboealaa.fin (cexpX u v) = true) :
    closeP (mulX (cexpX u v) (cexpY u v) (cexpX (fneg u) (fneg v)) (cexpY (fneg u) (fneg v))) 4607182418800017408 4400016835940974592 = true ∧ closeP (mulY (cexpX u v) (cexpY u v) (cexpX (fneg u) (fneg v)) (cexpY (fneg u) (fneg v))) 0 4400016835940974592 = true := by
  obtain ⟨c, c', γ, σ, X, Y, X', Y', v1, v2, v3, v4, g1, g2, g3, k1, k2, k3, k4, h1, h2, h3, h4, h5, h6⟩ := back_pair hu ha lv hfin
  have uu0 : 0 < uu ∧ uu ≤ 1 / 10000000 := by decide +kernel
  have hB := BG_big
  have c0 : 0 < c := by have := pw_pos (-1013); grind
  have c0' : 0 < c' := by have := pw_pos (-1013); grind
  -- the product of both lengths
  have px := XX_pos (a := a) (Rat.le_trans ha (by decide +kernel))
  have py := XX_pos (a := -a) (by rw [ab_neg]; exact Rat.le_trans ha (by decide +kernel))
  have inv := xx_inv (a := a) (Rat.le_trans ha (by decide +kernel))
  have w : tw 290 ≤ 1 / 1000 * uu := by decide +kernel
  have cc0 := Rat.mul_pos c0 c0'
  have cc : ab (c * c' - 1) ≤ 17 * uu := by
    have inv' := ab_le.1 inv
    have l1 : ab (XX a - c) ≤ 8 * (uu * c) := by rw [ab_comm]; exact h1
    have l2 : ab (XX (-a) - c') ≤ 8 * (uu * c') := by rw [ab_comm]; exact h2
    have e : XX a * XX (-a) - c * c' = (XX a - c) * c' + (c * (XX (-a) - c') + (XX a - c) * (XX (-a) - c')) := by grind
    have b1 : ab ((XX a - c) * c') ≤ 8 * (uu * (c * c')) := by
      rw [ab_mul, ab_pos (Rat.le_of_lt c0')]
      have m := Rat.mul_le_mul_of_nonneg_right l1 (Rat.le_of_lt c0')
      rw [show 8 * (uu * c) * c' = 8 * (uu * (c * c')) by grind] at m
      exact m
    have b2 : ab (c * (XX (-a) - c')) ≤ 8 * (uu * (c * c')) := by
      rw [ab_mul, ab_pos (Rat.le_of_lt c0)]
      have m := Rat.mul_le_mul_of_nonneg_left l2 (Rat.le_of_lt c0)
      rw [show c * (8 * (uu * c')) = 8 * (uu * (c * c')) by grind] at m
      exact m
    have b3 : ab ((XX a - c) * (XX (-a) - c')) ≤ 1 / 1000 * (uu * (c * c')) := by
      rw [ab_mul]
      have m := mul_mono (ab_nn _) l1 (ab_nn _) l2
      have e2 : 8 * (uu * c) * (8 * (uu * c')) = 64 * (uu * (uu * (c * c'))) := by grind
      rw [e2] at m
      have m2 := Rat.mul_le_mul_of_nonneg_right uu0.2 (Rat.le_of_lt (Rat.mul_pos uu0.1 cc0))
      have m3 := Rat.mul_pos uu0.1 cc0
      refine Rat.le_trans m ?_
      clear e2 m b1 b2 e l1 l2 k1 k2 k3 k4 h1 h2
      generalize uu * (uu * (c * c')) = z at *
      generalize uu * (c * c') = z2 at *
      grind
    have s1 := ab_add ((XX a - c) * c') (c * (XX (-a) - c') + (XX a - c) * (XX (-a) - c'))
    have s2 := ab_add (c * (XX (-a) - c')) ((XX a - c) * (XX (-a) - c'))
    rw [← e] at s1
    have tot : ab (XX a * XX (-a) - c * c') ≤ 16001 / 1000 * (uu * (c * c')) := by grind
    have tot' := ab_le.1 tot
    have us := Rat.mul_le_mul_of_nonneg_right uu0.2 (Rat.le_of_lt cc0)
    clear l1 l2 e b1 b2 b3 s1 s2 tot inv k1 k2 k3 k4 h1 h2 h3 h4 h5 h6 v1 v2 v3 v4 g1 g2 g3 hfin hB
    generalize XX a * XX (-a) = P at *
    have c2 : c * c' ≤ 1001 / 1000 := by
      generalize c * c' = M at *
      grind
    have um := Rat.mul_le_mul_of_nonneg_left c2 (Rat.le_of_lt uu0.1)
    generalize uu * (c * c') = z at *
    generalize c * c' = M at *
    rw [ab_le]
    constructor <;> grind
  have cc' := ab_le.1 cc
  have hcc : c * c' ≤ 1001 / 1000 := by generalize c * c' = M at *; grind
  have g2' : ab (-σ) ≤ 101 / 100 := by rw [ab_neg]; exact g2
  have bnd : ∀ {x y X Y : Rat}, ab x ≤ 101 / 100 → ab y ≤ 101 / 100 → ab (X - c * x) ≤ 102 / 100 * (uu * c) → ab (Y - c' * y) ≤ 102 / 100 * (uu * c') → ab (X * Y) ≤ BG := by
    intro x y X Y a1 a2 a3 a4
    have := (prod_near (p := X * Y) c0 c0' a1 a2 a3 a4 hcc (by
      rw [show X * Y - X * Y = 0 by grind, show ab (0 : Rat) = 0 by decide +kernel]
      have := Rat.mul_nonneg (Rat.le_of_lt uu0.1) (ab_nn (X * Y))
      have := et_pos
      grind)).2
    grind
  unfold mulX mulY
  obtain ⟨p1, w1, e1⟩ := v1.mul v3 (bnd g1 g1 k1 k3)
  obtain ⟨p2, w2, e2⟩ := v2.mul v4 (bnd g2 g2' k2 k4)
  obtain ⟨p3, w3, e3⟩ := v1.mul v4 (bnd g1 g2' k1 k4)
  obtain ⟨p4, w4, e4⟩ := v2.mul v3 (bnd g2 g1 k2 k3)
  have n1 := (prod_near c0 c0' g1 g1 k1 k3 hcc e1).1
  have n2 := (prod_near c0 c0' g2 g2' k2 k4 hcc e2).1
  have n3 := (prod_near c0 c0' g1 g2' k1 k4 hcc e3).1
  have n4 := (prod_near c0 c0' g2 g1 k2 k3 hcc e4).1
  have tot : ab (c * c' * (γ * γ + σ * σ) - 1) ≤ 44 * uu := by
    have e : c * c' * (γ * γ + σ * σ) - 1 = (c * c' - 1) + c * c' * (γ * γ + σ * σ - 1) := by grind
    have a := ab_add (c * c' - 1) (c * c' * (γ * γ + σ * σ - 1))
    have b : ab (c * c' * (γ * γ + σ * σ - 1)) ≤ 27 * uu := by
      rw [ab_mul, ab_pos (Rat.le_of_lt cc0)]
      have := mul_mono (Rat.le_of_lt cc0) hcc (ab_nn _) g3
      grind
    rw [e]
    grind
  have one : V 4607182418800017408 1 := vnum (w := 4607182418800017408) (k := 1) (by decide) (by decide +kernel)
  have d1 : ab (p1 - p2 - 1) ≤ 51 * uu := by
    rw [show c * c' * (σ * -σ) = -(c * c' * (σ * σ)) by grind] at n2
    rw [show c * c' * (γ * γ + σ * σ) = c * c' * (γ * γ) + c * c' * (σ * σ) by grind] at tot
    clear n3 n4 cc cc' bnd e1 e2 e3 e4 k1 k2 k3 k4 h1 h2 h3 h4 h5 h6
    generalize c * c' * (γ * γ) = y1 at *
    generalize c * c' * (σ * σ) = y2 at *
    rw [ab_le] at *
    constructor <;> grind
  have d2 : ab (p3 + p4) ≤ 7 * uu := by
    rw [show c * c' * (γ * -σ) = -(c * c' * (σ * γ)) by grind] at n3
    clear n1 n2 cc cc' bnd e1 e2 e3 e4 k1 k2 k3 k4 h1 h2 h3 h4 h5 h6 tot d1
    generalize c * c' * (σ * γ) = y1 at *
    rw [ab_le] at *
    constructor <;> grind
  have d1' : ab (p1 - p2) ≤ 101 / 100 := by
    have := ab_add (p1 - p2 - 1) 1
    rw [show p1 - p2 - 1 + 1 = p1 - p2 by grind, show ab (1 : Rat) = 1 by decide +kernel] at this
    grind
  obtain ⟨zr, hr, er⟩ := w1.sub w2 (by grind)
  obtain ⟨zi, hi, ei⟩ := w3.add w4 (by grind)
  have mr := Rat.mul_le_mul_of_nonneg_left d1' (Rat.le_of_lt uu0.1)
  have mi := Rat.mul_le_mul_of_nonneg_left (show ab (p3 + p4) ≤ 1 by grind) (Rat.le_of_lt uu0.1)
  have zr1 : ab (zr - 1) ≤ 53 * uu := by
    have := ab_tri zr (p1 - p2) 1
    grind
  have zi1 : ab (zi - 0) ≤ 9 * uu := by
    have := ab_add (zi - (p3 + p4)) (p3 + p4)
    rw [show zi - (p3 + p4) + (p3 + p4) = zi - 0 by grind] at this
    grind
  have vz : V 0 0 := by
    have h := V.pos (r := 0) (by decide)
    rwa [show (mval 0 : Rat) / (U : Rat) = 0 by decide +kernel] at h
  exact ⟨close_val hr one V.P46 (by grind) (by grind), close_val hi vz V.P46 (by grind) (by grind)⟩
theorem word_order {p q : Nat} (hp : p ≤ 9218868437227405312) (hq : q ≤ 9218868437227405312) : Proofs.Ytcfkhhnkboealaa.flt p q = decide (p < q) := by
  have e1 : sval p = (mval p : Int) := sval_pos' (by omega)
  have e2 : sval q = (mval q : Int) := sval_pos' (by omega)
  rw [flt_eq, num_pos hp, num_pos hq, e1, e2, Bool.eq_iff_iff]
  have := mval_lt_iff (r := p) (s := q)
  simp
  exact this
theorem run_max_w {P : Program} (w : World) (ts : Array TypeId) (t : TypeId) {p q : Nat} (hp : p ≤ 9218868437227405312) (hq : q ≤ 9218868437227405312) :
    (Builtin.max_ ts t #[.float .f64 p, .float .f64 q]).run P w = .ok (.float .f64 (max p q)) w := by
  rcases Nat.lt_trichotomy p q with c | c | c
  · have h : FloatKind.f64.format.order p q = some .lt := by
      have := word_order hp hq; rw [decide_eq_true c] at this; exact eq_of_beq this
    simp [Builtin.max_, Builtin.max2, h]; omega
  · subst c
    have h : FloatKind.f64.format.order p p = some .eq := by
      have : feq p p = true := by rw [feq_eq, num_pos hp]; simp
      exact eq_of_beq this
    simp [Builtin.max_, Builtin.max2, h]
  · have h : FloatKind.f64.format.order p q = some .gt := by
      have := word_order hq hp; rw [decide_eq_true c, ← fgt_eq] at this; exact eq_of_beq this
    simp [Builtin.max_, Builtin.max2, h]; omega
def capP (a : Nat) : Nat := min a 9218868437227405312
theorem capP_le (a : Nat) : capP a ≤ 9218868437227405312 := Nat.min_le_right _ _
theorem capP_of {a : Nat} (h : a ≤ 9218868437227405312) : capP a = a := Nat.min_eq_left h
@[go_sem] theorem run_max_one {P : Program} (w : World) (ts : Array TypeId) (t : TypeId) (b : Nat) :
    (Builtin.max_ ts t #[.float .f64 4607182418800017408, .float .f64 (capP b)]).run P w = .ok (.float .f64 (max 4607182418800017408 (capP b))) w := run_max_w w ts t (by decide) (capP_le b)
theorem closeP_c {x y z f g h : Nat} (hx : Rep x f) (hy : Rep y g) (hz : Rep z h) (w : World) : Calls Try.prog 59 #[.float .f64 x, .float .f64 y, .float .f64 z] w (RetB (closeP f g h) w) := by
  go_enter Try.func59, Try.ntmps59
  go_wp2_with (first | (go_at_call 23; (with_reducible refine (abs_c (hx.sub hy) _).mono ?_); rintro e w' ⟨r, n, rfl, hr, rfl⟩))
  go_ret
  exact RetB.mk _ (hr.le' hz)
/-- WHAT THE LAW ASKS. -/
theorem back_first {f g : Nat} (lf : f < 18446744073709551616) (lg : g < 18446744073709551616) (h1 : fle (fabs f) 4649368480934526976 = true) (h2 : fle (fabs g) 4613937818241073152 = true) :
    fabs f = capP (rung f) ∧ closeP (clogX (cexpX f g) (cexpY f g)) f (fmul 4400016835940974592 (max 4607182418800017408 (capP (rung f)))) = true ∧ closeP (clogY (cexpX f g) (cexpY f g)) g (fmul 4400016835940974592 (max 4607182418800017408 (capP (rung f)))) = true := by
  have finite : ∀ {z k : Nat}, z < 18446744073709551616 → k < 9218868437227405312 → fle (fabs z) k = true → V z (qv z) ∧ ab (qv z) ≤ qv k := by
    intro z k lz lk h
    have hn : isN z = false := by
      cases e : isN z
      · rfl
      · exfalso
        have e2 : isN (fabs z) = true := by rw [isN_abs]; exact e
        rw [fle_eq, e2] at h
        simp at h
    rw [fabs_of hn] at h
    obtain ⟨b1, b2, b3, b4, b5, b6⟩ := word_facts lk
    have lr := (notN_iff z).1 hn
    have hf : Proofs.Ytcfkhhnkboealaa.fin z = true := by
      rcases Nat.lt_or_ge (rung z) 9218868437227405312 with q | q
      · unfold Proofs.Ytcfkhhnkboealaa.fin; simpa using q
      · exfalso
        have e : rung z = 9218868437227405312 := by omega
        rw [e, fle_eq, b4, b5, sval_pos' (by decide)] at h
        have := mval_lt_iff.2 lk
        simp at h
        omega
    have hv := V.of lz hf
    rw [fle_val hv.absv (V.of (by omega) b1)] at h
    exact ⟨hv, of_decide_eq_true h⟩
  obtain ⟨v1, a1⟩ := finite lf (by decide) h1
  obtain ⟨v2, a2⟩ := finite lg (by decide) h2
  have e1 : qv 4649368480934526976 = 700 := (vnum (w := 4649368480934526976) (k := 700) (by decide) (by decide +kernel)).val
  have e2 : qv 4613937818241073152 = 3 := (vnum (w := 4613937818241073152) (k := 3) (by decide) (by decide +kernel)).val
  rw [e1] at a1
  rw [e2] at a2
  have c := capP_of (Nat.le_of_lt (fin_rung v1.fin))
  rw [c, fabs_of (fin_notN v1.fin)]
  exact ⟨rfl, back_one v1 v2 a1 a2⟩
theorem fmul_lt' (f g : Nat) : fmul f g < 18446744073709551616 := canon_map_lt _
theorem back_second {f g h : Nat} (lh : h < 18446744073709551616) (h1 : fle (fabs (fmul (clogX f g) h)) 4649368480934526976 = true) (h2 : (Proofs.Ytcfkhhnkboealaa.fin (crealX f g h) && Proofs.Ytcfkhhnkboealaa.fin (crealY f g h)) = true) :
    closeP (mulX (crealX f g h) (crealY f g h) (crealX f g (fneg h)) (crealY f g (fneg h))) 4607182418800017408 4400016835940974592 = true ∧ closeP (mulY (crealX f g h) (crealY f g h) (crealX f g (fneg h)) (crealY f g (fneg h))) 0 4400016835940974592 = true := by
  unfold crealX crealY at h2 ⊢
  rw [feq0_neg]
  cases hz : feq h 0
  · rw [hz, if_neg (by decide), if_neg (by decide), Bool.and_eq_true] at h2
    rw [if_neg (by decide), if_neg (by decide), if_neg (by decide), if_neg (by decide)]
    rw [fmul_negr _ lh, fmul_negr _ lh]
    have hn : isN (fmul (clogX f g) h) = false := by
      cases e : isN (fmul (clogX f g) h)
      · rfl
      · exfalso
        have e2 : isN (fabs (fmul (clogX f g) h)) = true := by rw [isN_abs]; exact e
        rw [fle_eq, e2] at h1
        simp at h1
    have hv : V (fmul (clogX f g) h) (qv (fmul (clogX f g) h)) ∧ ab (qv (fmul (clogX f g) h)) ≤ 700 := by
      generalize hz2 : fmul (clogX f g) h = z at *
      have lz : z < 18446744073709551616 := by rw [← hz2]; exact fmul_lt' _ _
      rw [fabs_of hn] at h1
      obtain ⟨b1, b2, b3, b4, b5, b6⟩ := word_facts (r := 4649368480934526976) (by decide)
      have lr := (notN_iff z).1 hn
      have hf : Proofs.Ytcfkhhnkboealaa.fin z = true := by
        rcases Nat.lt_or_ge (rung z) 9218868437227405312 with q | q
        · unfold Proofs.Ytcfkhhnkboealaa.fin; simpa using q
        · exfalso
          have e : rung z = 9218868437227405312 := by omega
          rw [e] at h1
          exact absurd h1 (by decide +kernel)
      have hv := V.of lz hf
      have e1 := vnum (w := 4649368480934526976) (k := 700) (by decide) (by decide +kernel)
      rw [fle_val hv.absv e1] at h1
      exact ⟨hv, of_decide_eq_true h1⟩
    exact back_two hv.1 hv.2 (fmul_lt' _ _) h2.1
  · rw [if_pos rfl, if_pos rfl, if_pos rfl, if_pos rfl]
    decide +kernel
theorem back_third {f g h : Nat} (lh : h < 18446744073709551616) (h1 : fle (fabs (fmul (clogX f g) h)) 4649368480934526976 = true) (h2 : (Proofs.Ytcfkhhnkboealaa.fin (crealX f g h) && Proofs.Ytcfkhhnkboealaa.fin (crealY f g h)) = true) :
    closeP (fsub (fmul (crealX f g h) (crealX f g (fneg h))) (fmul (crealY f g h) (crealY f g (fneg h)))) 4607182418800017408 4400016835940974592 = true ∧ closeP (fadd (fmul (crealX f g h) (crealY f g (fneg h))) (fmul (crealY f g h) (crealX f g (fneg h)))) 0 4400016835940974592 = true := back_second lh h1 h2
end Go.Proofs.Ytcfkhhnkboealaa
