/- There and back by exponential and logarithm, and powers: plain laws. No text of the program. -/
import Derived.Test.YtcfkhhnkboealaaEx3
import Derived.Test.YtcfkhhnkboealaaGg
import Derived.Test.YtcfkhhnkboealaaRt
namespace Go.Proofs.Ytcfkhhnkboealaa
open Go.RowKit
set_option linter.unusedVariables false
set_option linter.unusedSimpArgs false
set_option maxRecDepth 100000
set_option maxHeartbeats 4000000
open Turns Sizes
/-! ### the exponential by value -/
theorem xx_up {a : Rat} (h0 : 0 ≤ a) (h : a ≤ 700) : 1 ≤ XX a ∧ XX a ≤ pw 1011 := by
  have hl : 700 ≤ 1010 * L2 ∧ 1010 * L2 ≤ 701 := by decide +kernel
  have h1 := XX_add (a := a) (b := 1010 * L2 - a) (by rw [ab_pos h0]; grind) (by rw [ab_pos (by grind)]; grind)
  rw [show a + (1010 * L2 - a) = 1010 * L2 by grind] at h1
  have h3 := XX_pow2 (n := 1010) (by decide) (by decide)
  have e : ((1010 : Int) : Rat) = 1010 := by decide +kernel
  rw [e] at h3
  have h4 := XX_ge (a := 1010 * L2 - a) (by grind)
  have h5 := (rl_pos (rl_trans h1 h3 (by decide +kernel)) (by decide +kernel)).2.2
  have h6 : tw 553 + tw 71 + tw 553 * tw 71 ≤ 1 / 1000000 := by decide +kernel
  have g0 := XX_ge h0
  have e2 : pw 1011 = 2 * pw 1010 := by rw [← pw_one, ← pw_add]; rfl
  have p := pw_pos 1010
  have m := Rat.mul_le_mul_of_nonneg_left (show 1 ≤ XX (1010 * L2 - a) by grind) (show 0 ≤ XX a by grind)
  have m2 := Rat.mul_le_mul_of_nonneg_right h6 (Rat.le_of_lt p)
  refine ⟨by grind, ?_⟩
  rw [e2]
  clear h1 h3 h4 hl
  generalize XX a * XX (1010 * L2 - a) = z1 at *
  generalize tw 553 + tw 71 + tw 553 * tw 71 = z3 at *
  generalize pw 1010 = z2 at *
  grind
theorem xx_self {a : Rat} (h : ab a ≤ 750) : Rl (XX a) (XX a) (tw 300) := (rl_refl (XX_pos (Rat.le_trans h (by decide +kernel)))).mono (by decide +kernel)
theorem xx_inv {a : Rat} (h : ab a ≤ 750) : ab (XX a * XX (-a) - 1) ≤ tw 290 :=
  inv_near h (xx_self h) (xx_self (by rw [ab_neg]; exact h))
theorem xx_range {a : Rat} (h : ab a ≤ 700) : pw (-1012) ≤ XX a ∧ XX a ≤ pw 1012 := by
  have hp := XX_pos (a := a) (Rat.le_trans h (by decide +kernel))
  have pp := pw_neg 1012
  have p1 := pw_pos 1012
  have p2 := pw_pos (-1012)
  have e2 : pw 1012 = 2 * pw 1011 := by rw [← pw_one, ← pw_add]; rfl
  have p3 := pw_pos 1011
  have w : tw 290 ≤ 1 / 1000 := by decide +kernel
  have big : 1 ≤ pw 1011 := by
    have := pw_mono (a := 0) (b := 1011) (by decide)
    rwa [show pw 0 = 1 by decide +kernel] at this
  have hb := ab_le.1 h
  have hi := xx_inv (a := a) (Rat.le_trans h (by decide +kernel))
  have hi' := ab_le.1 hi
  rcases (show 0 ≤ a ∨ a < 0 by grind) with q | q
  · obtain ⟨a1, a2⟩ := xx_up q hb.2
    refine ⟨?_, by grind⟩
    have := pw_mono (a := -1012) (b := 0) (by decide)
    rw [show pw 0 = 1 by decide +kernel] at this
    grind
  · obtain ⟨a1, a2⟩ := xx_up (a := -a) (by grind) (by grind)
    have m := Rat.mul_le_mul_of_nonneg_left a1 (Rat.le_of_lt hp)
    have m2 := Rat.mul_le_mul_of_nonneg_left a2 (Rat.le_of_lt hp)
    constructor
    · refine Rat.le_of_mul_le_mul_right (c := pw 1012) ?_ p1
      rw [Rat.mul_comm, pp, e2, show XX a * (2 * pw 1011) = 2 * (XX a * pw 1011) by grind]
      clear pp m hb h
      generalize XX a * XX (-a) = z at *
      generalize XX a * pw 1011 = z2 at *
      have h1 := hi'.1
      clear hi hi' e2 p1 p2 p3 hp a1 a2 big q
      grind
    · have h2 := hi'.2
      rw [Rat.mul_one] at m
      have b2 : XX a ≤ 1001 / 1000 := by
        clear pp m2 hi hi' big e2 p1 p2 p3 hb a1 a2 hp
        generalize XX a * XX (-a) = z at *
        grind
      rw [e2]
      clear pp m2 hi hi' m h2 hb a1 a2
      grind
/-- THE EXPONENTIAL, near. -/
theorem exp_close {f : Nat} {a : Rat} (hf : V f a) (ha : ab a ≤ 700) : ∃ c, V (expF f) c ∧ ab (c - XX a) ≤ 8 * (uu * c) ∧ pw (-1013) ≤ c ∧ c ≤ pw 1013 ∧ expF f < 9218868437227405312 := by
  have hx := xx_self (a := a) (Rat.le_trans ha (by decide +kernel))
  have hr := xx_range ha
  have hu : 0 < uu ∧ uu ≤ 1 / 10000000 := by decide +kernel
  have p1 := pw_pos 1012
  have p2 := pw_pos (-1012)
  have e1 : pw (-1012) = 2 * pw (-1013) := by rw [← pw_one, ← pw_add]; rfl
  have e2 : pw 1013 = 2 * pw 1012 := by rw [← pw_one, ← pw_add]; rfl
  rcases exp_law hf (Rat.le_trans ha (by decide +kernel)) (hx.mono (by decide +kernel)) with ⟨c, hc, c0, cl, cn, _⟩ | ⟨_, h⟩
  · have ex := hc.size
    rw [ab_pos c0] at ex
    -- not tiny
    have hr52 : 4503599627370496 ≤ rung (expF f) := by
      rcases Nat.lt_or_ge (rung (expF f)) 4503599627370496 with q | q
      · exfalso
        have hg : gapq (rung (expF f)) = 2 * et := by
          unfold gapq
          rw [mval_stepU, show rung (expF f) / 4503599627370496 - 1 = 0 by omega]
          have e : ((mval (rung (expF f)) + 2 ^ 0 : Nat) : Rat) = (mval (rung (expF f)) : Rat) + 1 := by grind
          rw [e]
          have := et_U
          have hU := UQ_ne
          grind
        rw [hg] at cn
        have cs : c ≤ pw (-1022) := by
          rw [ex]
          have := cast_le.2 (mval_le_iff.2 (Nat.le_of_lt q))
          have hU := UQ_pos
          have e3 : (mval 4503599627370496 : Rat) / (U : Rat) = pw (-1022) := by decide +kernel
          rw [← e3, div_le hU, div_self_mul _ UQ_ne]
          exact this
        have e3 : pw (-1022) ≤ 1 / 1000 * pw (-1012) ∧ et ≤ 1 / 1000 * pw (-1012) := by decide +kernel
        rw [ab_comm] at cn
        have n := (ab_le.1 (Rat.le_refl : ab (XX a - c) ≤ ab (XX a - c))).2
        generalize ab (XX a - c) = z at *
        grind
      · exact q
    have g := gap_up hr52
    rw [← ex] at g
    have n : ab (c - XX a) ≤ 8 * (uu * c) := by
      have := ab_nn (c - XX a)
      grind
    have n' := ab_le.1 n
    have uc := Rat.mul_le_mul_of_nonneg_right hu.2 c0
    exact ⟨c, hc, n, by grind, by grind, cl⟩
  · exfalso
    have hb : pw 1012 * 2 ≤ pw 1024 * (1 - 498 / 100 * uu) := by
      have e3 : pw 1024 = 4096 * pw 1012 := by
        have e4 : pw 12 = 4096 := by decide +kernel
        rw [← e4, ← pw_add]; rfl
      rw [e3]
      have := Rat.mul_le_mul_of_nonneg_right (show (2 : Rat) ≤ 4096 * (1 - 498 / 100 * uu) by grind) (Rat.le_of_lt p1)
      grind
    grind
/-! ### exponentials that lie near have arguments that lie near -/
theorem xx_near {m a δ : Rat} (hm : ab m ≤ 900) (ha : ab a ≤ 900) (h : Rl (XX m) (XX a) δ) (h0 : 0 ≤ δ) (h1 : δ ≤ 1 / 1000) : ab (m - a) ≤ 1002 / 1000 * δ + tw 500 := by
  have w : 0 ≤ tw 553 ∧ 10 * tw 553 ≤ tw 500 ∧ tw 553 ≤ 1 / 1000000 ∧ tw 500 ≤ 1 / 1000000 := by decide +kernel
  have hm' := ab_le.1 hm
  have ha' := ab_le.1 ha
  -- from the lesser to the greater one
  have key : ∀ {x y : Rat}, ab x ≤ 900 → ab y ≤ 900 → x ≤ y → (1 - 5 / 2 * tw 553) * (XX x * (1 + (y - x))) ≤ XX y := by
    intro x y hx hy hle
    obtain ⟨b, hb⟩ : ∃ b, b = (y - x) / 2 := ⟨_, rfl⟩
    have hx' := ab_le.1 hx
    have hy' := ab_le.1 hy
    have b0 : 0 ≤ b := by rw [hb]; grind
    have bb : ab b ≤ 900 := by rw [ab_pos b0, hb]; grind
    have r1 := (XX_add (a := x) (b := b) (by grind) (by grind)).1
    have xb : ab (x + b) ≤ 900 := by rw [ab_le, hb]; constructor <;> grind
    have r2 := (XX_add (a := x + b) (b := b) (by grind) (by grind)).1
    rw [show x + b + b = y by rw [hb]; grind] at r2
    have gb := XX_ge b0
    have px := XX_pos (a := x) (by grind)
    have pm := XX_pos (a := x + b) (by grind)
    have py := XX_pos (a := y) (by grind)
    have r1' := ab_le.1 r1
    have r2' := ab_le.1 r2
    have m1 := Rat.mul_le_mul_of_nonneg_left gb (Rat.le_of_lt px)
    have m2 := Rat.mul_le_mul_of_nonneg_left gb (Rat.le_of_lt pm)
    have k1 : XX x * (1 + b) ≤ (1 + tw 553) * XX (x + b) := by grind
    have k2 : XX (x + b) * (1 + b) ≤ (1 + tw 553) * XX y := by grind
    have k3 := Rat.mul_le_mul_of_nonneg_right k1 (show 0 ≤ 1 + b by grind)
    have k4 := Rat.mul_le_mul_of_nonneg_left k2 (show 0 ≤ 1 + tw 553 by grind)
    have e1 : y - x = 2 * b := by rw [hb]; grind
    have k5 : XX x * (1 + 2 * b) ≤ XX x * ((1 + b) * (1 + b)) := by
      refine Rat.mul_le_mul_of_nonneg_left ?_ (Rat.le_of_lt px)
      have := Rat.mul_nonneg b0 b0
      grind
    have k6 : XX x * (1 + 2 * b) ≤ (1 + tw 553) * (1 + tw 553) * XX y := by grind
    rw [e1]
    have k7 := Rat.mul_le_mul_of_nonneg_left k6 (show 0 ≤ 1 - 5 / 2 * tw 553 by grind)
    refine Rat.le_trans k7 ?_
    have k8 : (1 - 5 / 2 * tw 553) * ((1 + tw 553) * (1 + tw 553)) ≤ 1 := by
      have := Rat.mul_nonneg w.1 w.1
      have := Rat.mul_nonneg this w.1
      generalize tw 553 = t at *
      grind
    have := Rat.mul_le_mul_of_nonneg_right k8 (Rat.le_of_lt py)
    grind
  obtain ⟨h2, h3⟩ := h
  have h2' := ab_le.1 h2
  rw [ab_le]
  rcases (show a ≤ m ∨ m ≤ a by grind) with q | q
  · have k := key ha hm q
    have k2 : XX a * ((1 - 5 / 2 * tw 553) * (1 + (m - a))) ≤ XX a * (1 + δ) := by grind
    have k3 : (1 - 5 / 2 * tw 553) * (1 + (m - a)) ≤ 1 + δ := by
      refine Rat.le_of_mul_le_mul_right (c := XX a) ?_ h3
      grind
    have k4 := Rat.mul_le_mul_of_nonneg_right (show m - a ≤ 1800 by grind) w.1
    have k5 : m - a ≤ 2 := by
      have := Rat.mul_le_mul_of_nonneg_right w.2.2.1 (show 0 ≤ m - a by grind)
      generalize tw 553 = t at *
      grind
    have k6 := Rat.mul_le_mul_of_nonneg_right k5 w.1
    generalize tw 553 = t at *
    constructor <;> grind
  · have k := key hm ha q
    have pm := XX_pos (a := m) (by grind)
    have k1 : (1 - δ) * XX a ≤ XX m := by grind
    have z0 : 0 ≤ (1 - 5 / 2 * tw 553) * (1 + (a - m)) := Rat.mul_nonneg (by grind) (by grind)
    have k2 := Rat.mul_le_mul_of_nonneg_left k1 z0
    have k3 : (1 - 5 / 2 * tw 553) * (1 + (a - m)) * (1 - δ) ≤ 1 := by
      refine Rat.le_of_mul_le_mul_right (c := XX a) ?_ h3
      grind
    have k5 : a - m ≤ 2 := by
      have y := Rat.mul_le_mul_of_nonneg_right (show 99 / 100 ≤ (1 - 5 / 2 * tw 553) * (1 - δ) by
        have := Rat.mul_nonneg w.1 h0
        have := Rat.mul_le_mul_of_nonneg_right w.2.2.1 h0
        generalize tw 553 = t at *
        grind) (show 0 ≤ 1 + (a - m) by grind)
      generalize tw 553 = t at *
      grind
    have d0 : 0 ≤ a - m := by grind
    have t1 := Rat.mul_le_mul_of_nonneg_right k5 w.1
    have t2 : tw 553 * (a - m) * δ ≤ tw 553 * 2 * 1 := by
      have := mul_mono (Rat.mul_nonneg w.1 d0) (show tw 553 * (a - m) ≤ tw 553 * 2 by grind) h0 (show δ ≤ 1 by grind)
      exact this
    have t3 := Rat.mul_le_mul_of_nonneg_right h1 w.1
    have t0 := Rat.mul_nonneg (Rat.mul_nonneg w.1 d0) h0
    have e : (1 - 5 / 2 * tw 553) * (1 + (a - m)) * (1 - δ) = (1 + (a - m)) * (1 - δ) - 5 / 2 * tw 553 * (1 - δ) - 5 / 2 * (tw 553 * (a - m)) + 5 / 2 * (tw 553 * (a - m) * δ) := by grind
    rw [e] at k3
    have k7 : (1 + (a - m)) * (1 - δ) ≤ 1 + 8 * tw 553 := by
      generalize tw 553 * (a - m) * δ = z1 at *
      have e3 : tw 553 * (a - m) = (a - m) * tw 553 := Rat.mul_comm _ _
      rw [e3] at k3
      have t4 := Rat.mul_nonneg w.1 h0
      have tn := w.1
      have e6 : 5 / 2 * tw 553 * (1 - δ) = 5 / 2 * tw 553 - 5 / 2 * (tw 553 * δ) := by grind
      rw [e6] at k3
      clear k k1 k2 k5 key h2 h2' h3 hm ha hm' ha' pm w e z0 e6 e3 t2 t3
      generalize (a - m) * tw 553 = z2 at *
      generalize (1 + (a - m)) * (1 - δ) = z3 at *
      generalize tw 553 * δ = z4 at *
      grind
    have k8 := Rat.mul_le_mul_of_nonneg_right h1 d0
    have k9 : a - m ≤ 1002 / 1000 * δ + 9 * tw 553 := by
      have e4 : (1 + (a - m)) * (1 - δ) = 1 + (a - m) - δ - δ * (a - m) := by grind
      rw [e4] at k7
      have w1 := w.1
      clear k k1 k2 k3 k5 t0 t1 t2 t3 e z0 key h2 h2' h3 hm ha hm' ha' pm w
      generalize δ * (a - m) = z at *
      generalize tw 553 = t at *
      generalize a - m = D at *
      grind
    have w2 := w.2.1
    have w1 := w.1
    clear k k1 k2 k3 k5 t0 t1 t2 t3 e z0 key h2 h2' h3 hm ha hm' ha' pm w k7 k8
    generalize tw 553 = t at *
    generalize tw 500 = t5 at *
    constructor <;> grind
/-! ### lengths of numbers that are far from under and over flow -/
theorem len_far {f g : Nat} {x y : Rat} (hf : V f x) (hg : V g y) (h1 : pw (-2030) ≤ x * x + y * y) (h2 : x * x + y * y ≤ pw 2030) :
    ∃ T, V (lenF f g) T ∧ 0 < T ∧ 10 * (T * T) ≤ (10 + 41 * uu) * (x * x + y * y) ∧ (10 - 41 * uu) * (x * x + y * y) ≤ 10 * (T * T) := by
  have hu : 0 < uu ∧ uu ≤ 1 / 10000000 := by decide +kernel
  have p0 := pw_pos (-2030)
  have h0 : x ≠ 0 ∨ y ≠ 0 := by
    rcases (show x ≠ 0 ∨ x = 0 by grind) with q | q
    · exact .inl q
    · right; intro e; rw [q, e] at h1; grind
  obtain ⟨T, t0, t1, t2, t3⟩ := len_true hf hg h0
  generalize x * x + y * y = N at *
  have N0 : 0 < N := by grind
  have uN := Rat.mul_le_mul_of_nonneg_right hu.2 (Rat.le_of_lt N0)
  rcases t3 with ⟨lr, t3 | ⟨t3, ls⟩⟩ | ⟨_, t3⟩
  · exact ⟨T, by rw [← t3]; exact V.pos lr, t0, t1, t2⟩
  · exfalso
    have cs : (mval (lenF f g) : Rat) / (U : Rat) ≤ pw (-1022) := by
      have := cast_le.2 (mval_le_iff.2 ls)
      have hU := UQ_pos
      have e3 : (mval 4503599627370496 : Rat) / (U : Rat) = pw (-1022) := by decide +kernel
      rw [← e3, div_le hU, div_self_mul _ UQ_ne]
      exact this
    have e3 : pw (-1022) + et ≤ pw (-1021) := by decide +kernel
    have T1 : T ≤ pw (-1021) := by
      have := (ab_le.1 t3).1
      grind
    have m := mul_mono (Rat.le_of_lt t0) T1 (Rat.le_of_lt t0) T1
    rw [← pw_add] at m
    have e4 : pw (-1021 + -1021) ≤ 1 / 2 * pw (-2030) := by
      have e5 : pw (-2030) = pw (-2042) * 4096 := by
        have e6 : pw 12 = 4096 := by decide +kernel
        rw [← e6, ← pw_add]; rfl
      rw [e5, show (-1021 : Int) + -1021 = -2042 by decide]
      have := pw_pos (-2042)
      grind
    grind
  · exfalso
    have e3 : pw 1023 ≤ (mval 9218868437227405311 : Rat) / (U : Rat) := by decide +kernel
    have T1 : pw 1023 ≤ T := Rat.le_trans e3 t3
    have m := mul_mono (Rat.le_of_lt (pw_pos 1023)) T1 (Rat.le_of_lt (pw_pos 1023)) T1
    rw [← pw_add] at m
    have e4 : 2 * pw 2030 ≤ pw (1023 + 1023) := by
      have e5 : pw 2046 = pw 2030 * 65536 := by
        have e6 : pw 16 = 65536 := by decide +kernel
        rw [← e6, ← pw_add]; rfl
      rw [show (1023 : Int) + 1023 = 2046 by decide, e5]
      have := pw_pos 2030
      grind
    have := pw_pos 2030
    grind
/-- THE LOGARITHM takes the exponential back. -/
theorem log_back {L : Nat} {T a : Rat} (hL : V L T) (ha : ab a ≤ 700) (hT : Rl T (XX a) (27 * uu)) : ∃ l, V (logF L) l ∧ ab (l - a) ≤ 9 * (uu * ab a) + 29 * uu := by
  have hu : 0 < uu ∧ uu ≤ 1 / 100000000 := by decide +kernel
  have w : tw 500 ≤ 1 / 1000000 * uu := by decide +kernel
  have px := XX_pos (a := a) (Rat.le_trans ha (by decide +kernel))
  have T0 : 0 < T := (rl_pos hT (by grind)).1
  obtain ⟨l, μ, η, v1, v2, v3, v4, v5, v6, v7, v8⟩ := log_val hL T0
  have tr := rl_trans v3 hT v4
  have u27 : η * (27 * uu) ≤ 1 / 1000 * (27 * uu) := Rat.mul_le_mul_of_nonneg_right v5 (by grind)
  have nn : 0 ≤ η * (27 * uu) := Rat.mul_nonneg v4 (by grind)
  refine ⟨l, v1, ?_⟩
  have gl : ab (l - μ) + 2 * η ≤ 798 / 100 * (uu * ab l) ∨ (l = 0 ∧ η = 0 ∧ μ = 0) := by
    rcases v8 with q | q
    · exact .inr q
    · left
      have hr52 : 4503599627370496 ≤ rung (logF L) := by
        rcases Nat.lt_or_ge (rung (logF L)) 4503599627370496 with z | z
        · exfalso
          have sz := v1.size
          have := cast_le.2 (mval_le_iff.2 (Nat.le_of_lt z))
          have hU := UQ_pos
          have e3 : (mval 4503599627370496 : Rat) / (U : Rat) < pw (-61) := by decide +kernel
          have : ab l ≤ (mval 4503599627370496 : Rat) / (U : Rat) := by
            rw [sz, div_le hU, div_self_mul _ UQ_ne]; exact this
          grind
        · exact z
      have g := gap_up hr52
      rw [← v1.size] at g
      grind
  have eta : 2 * η ≤ 1 / 10000 := by
    have n := ab_nn (l - μ)
    rcases gl with q | q
    · have := Rat.mul_le_mul_of_nonneg_left v2 (Rat.le_of_lt hu.1)
      grind
    · rw [q.2.1]; decide +kernel
  have nr := xx_near v6 (Rat.le_trans ha (by decide +kernel)) tr (by grind) (by grind)
  have t := ab_tri l μ a
  rcases gl with q | q
  · have s : ab l ≤ ab a + 1 / 1000 := by
      have s1 := ab_add (l - a) a
      rw [show l - a + a = l by grind] at s1
      have := Rat.mul_le_mul_of_nonneg_left v2 (Rat.le_of_lt hu.1)
      grind
    have k := Rat.mul_le_mul_of_nonneg_left s (Rat.le_of_lt hu.1)
    have k' : uu * ab l ≤ uu * ab a + 1 / 1000 * uu := by grind
    have n := Rat.mul_nonneg (Rat.le_of_lt hu.1) (ab_nn a)
    clear k v1 v2 v3 v6 v7 v8 tr hT eta px T0 hL s ha
    generalize ab (l - μ) = z1 at *
    generalize ab (μ - a) = z2 at *
    generalize ab (l - a) = z3 at *
    generalize uu * ab l = z4 at *
    generalize uu * ab a = z5 at *
    generalize η * (27 * uu) = z6 at *
    grind
  · obtain ⟨q1, q2, q3⟩ := q
    subst q1 q2 q3
    have n := Rat.mul_nonneg (Rat.le_of_lt hu.1) (ab_nn a)
    have z : ab ((0 : Rat) - 0) = 0 := by decide +kernel
    rw [z] at t
    clear v1 v2 v3 v6 v7 v8 tr hT eta px T0 hL ha z
    generalize ab ((0 : Rat) - a) = z2 at *
    generalize uu * ab a = z5 at *
    generalize (0 : Rat) * (27 * uu) = z6 at *
    grind
end Go.Proofs.Ytcfkhhnkboealaa
