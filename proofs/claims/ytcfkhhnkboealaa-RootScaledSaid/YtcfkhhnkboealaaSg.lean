/- There and back by length and angle: near to the number. No text of the program. -/
import Derived.Test.YtcfkhhnkboealaaSe
import Derived.Test.YtcfkhhnkboealaaGg
import Derived.Test.YtcfkhhnkboealaaRts
namespace Go.Proofs.Ytcfkhhnkboealaa
set_option linter.unusedVariables false
set_option linter.unusedSimpArgs false
set_option maxRecDepth 100000
set_option maxHeartbeats 4000000
open Turns Sizes
theorem et_small {T : Rat} (T1 : pw (-403) ≤ T) : et ≤ 1 / 100 * (uu * T) := by
  have hu : 0 ≤ uu := by decide +kernel
  have a := Rat.mul_le_mul_of_nonneg_left T1 hu
  have e : et ≤ 1 / 100 * (uu * pw (-403)) := by decide +kernel
  exact Rat.le_trans e (Rat.mul_le_mul_of_nonneg_left a (by decide +kernel))
theorem big404 : 1000 * pw 404 ≤ BG := by
  have e : BG = pw (kBG : Int) := by rw [pw_nat]; rfl
  have e2 : pw 10 = 1024 := by decide +kernel
  have e3 : pw 414 = 1024 * pw 404 := by rw [show (414 : Int) = 10 + 404 by decide, pw_add, e2]
  have m := pw_mono (a := 414) (b := (kBG : Int)) (by rw [kBG_eq]; decide)
  have p := pw_pos 404
  rw [e3] at m
  rw [e]
  generalize pw 404 = z at *
  generalize pw (kBG : Int) = z2 at *
  grind
theorem sq_sides {T R A : Rat} (hT : 0 < T) (hR : 0 < R) (h1 : T * T ≤ (1 + 42 / 10 * uu) * (R * R)) (h2 : (1 - 42 / 10 * uu) * (R * R) ≤ T * T) : ab (T - R) ≤ 22 / 10 * (uu * R) := by
  have hu : 0 < uu ∧ uu ≤ 1 / 10000000 := by decide +kernel
  have uR := Rat.mul_le_mul_of_nonneg_right hu.2 (Rat.le_of_lt hR)
  have uR0 := Rat.mul_pos hu.1 hR
  have hRR := Rat.mul_pos hR hR
  have x1 : 0 ≤ uu * (R * R) := Rat.le_of_lt (Rat.mul_pos hu.1 hRR)
  have x2 : uu * (uu * (R * R)) ≤ 1 / 10000000 * (uu * (R * R)) := Rat.mul_le_mul_of_nonneg_right hu.2 x1
  have x3 : 0 ≤ uu * (uu * (R * R)) := Rat.mul_nonneg (Rat.le_of_lt hu.1) x1
  have a : T ≤ R + 22 / 10 * (uu * R) := by
    apply le_of_sq (by grind)
    have e : (R + 22 / 10 * (uu * R)) * (R + 22 / 10 * (uu * R)) = R * R + 44 / 10 * (uu * (R * R)) + 484 / 100 * (uu * (uu * (R * R))) := by grind
    rw [e]
    generalize uu * (uu * (R * R)) = z at *
    grind
  have b : R - 22 / 10 * (uu * R) ≤ T := by
    apply le_of_sq (Rat.le_of_lt hT)
    have e : (R - 22 / 10 * (uu * R)) * (R - 22 / 10 * (uu * R)) = R * R - 44 / 10 * (uu * (R * R)) + 484 / 100 * (uu * (uu * (R * R))) := by grind
    rw [e]
    generalize uu * (uu * (R * R)) = z at *
    grind
  rw [ab_le]
  constructor <;> grind
/-- the line's length, and how far its places lie apart. -/
theorem back_core {x y C S T δ : Rat} (h0 : 0 < C * x + S * y) (hI : ab (S * x - C * y) ≤ 104 / 10 * uu * (C * x + S * y)) (hδ : C * C + S * S = 1 + δ) (dd : ab δ ≤ tw 400)
    (hT : 0 < T) (t1 : 10 * (T * T) ≤ (10 + 41 * uu) * (x * x + y * y)) (t2 : (10 - 41 * uu) * (x * x + y * y) ≤ 10 * (T * T)) :
    ∃ R, 0 < R ∧ ab (T - R) ≤ 22 / 10 * (uu * R) ∧ ab (x - C * R) ≤ 106 / 10 * (uu * R) ∧ ab (y - S * R) ≤ 106 / 10 * (uu * R) := by
  have hu : 0 < uu ∧ uu ≤ 1 / 10000000 := by decide +kernel
  have hw : tw 400 ≤ 1 / 1000000 * (uu * uu) := by decide +kernel
  have uu2 : 0 ≤ uu * uu := Rat.mul_nonneg (Rat.le_of_lt hu.1) (Rat.le_of_lt hu.1)
  have uu3 : uu * uu ≤ 1 / 10000000 * uu := Rat.mul_le_mul_of_nonneg_right hu.2 (Rat.le_of_lt hu.1)
  have da := ab_le.1 dd
  obtain ⟨R, hR⟩ : ∃ R, R = C * x + S * y := ⟨_, rfl⟩
  obtain ⟨I, hI'⟩ : ∃ I, I = S * x - C * y := ⟨_, rfl⟩
  rw [← hR, ← hI'] at hI
  rw [← hR] at h0
  have e1 : x * (1 + δ) = C * R + S * I := by rw [← hδ, hR, hI']; grind
  have e2 : y * (1 + δ) = S * R - C * I := by rw [← hδ, hR, hI']; grind
  have eN : R * R + I * I = (1 + δ) * (x * x + y * y) := by rw [← hδ, hR, hI']; grind
  have hRR := Rat.mul_pos h0 h0
  have II : I * I ≤ 109 * (uu * uu) * (R * R) := by
    have m := mul_mono (ab_nn I) hI (ab_nn I) hI
    rw [sq_ab'] at m
    have e : 104 / 10 * uu * R * (104 / 10 * uu * R) = 10816 / 100 * (uu * uu * (R * R)) := by grind
    rw [e] at m
    have := Rat.mul_nonneg uu2 (Rat.le_of_lt hRR)
    grind
  have II0 := sq_nn I
  have N0 : 0 ≤ x * x + y * y := by have := sq_nn x; have := sq_nn y; grind
  have CC : C * C ≤ 1001 / 1000 ∧ S * S ≤ 1001 / 1000 := by
    have := sq_nn C; have := sq_nn S
    constructor <;> grind
  have Ca : ab C ≤ 1001 / 1000 ∧ ab S ≤ 1001 / 1000 := by
    constructor
    · apply le_of_sq (by decide +kernel); rw [sq_ab']; grind
    · apply le_of_sq (by decide +kernel); rw [sq_ab']; grind
  -- lengths against the line's
  have uRR : uu * uu * (R * R) ≤ 1 / 10000000 * uu * (R * R) := Rat.mul_le_mul_of_nonneg_right uu3 (Rat.le_of_lt hRR)
  have uR0 : 0 ≤ uu * (R * R) := Rat.le_of_lt (Rat.mul_pos hu.1 hRR)
  have dN : ab (δ * (x * x + y * y)) ≤ 1 / 1000000 * (uu * (x * x + y * y)) := by
    rw [ab_mul, ab_pos N0]
    have := Rat.mul_le_mul_of_nonneg_right (show ab δ ≤ 1 / 1000000 * uu by grind) N0
    grind
  have dN' := ab_le.1 dN
  generalize hN : x * x + y * y = N at *
  have eN' : R * R + I * I = N + δ * N := by rw [eN]; grind
  have uN : 0 ≤ uu * N := Rat.mul_nonneg (Rat.le_of_lt hu.1) N0
  have NR : N ≤ R * R + 1 / 1000000 * (uu * N) + 1 / 10000 * (uu * (R * R)) := by
    generalize δ * N = z at *
    grind
  have RN : R * R ≤ N + 1 / 1000000 * (uu * N) := by
    generalize δ * N = z at *
    grind
  have uNR : uu * N ≤ 101 / 100 * (uu * (R * R)) := by
    have := Rat.mul_le_mul_of_nonneg_left (show N ≤ 101 / 100 * (R * R) by
      have := Rat.mul_le_mul_of_nonneg_right hu.2 N0
      have := Rat.mul_le_mul_of_nonneg_right hu.2 (Rat.le_of_lt hRR)
      grind) (Rat.le_of_lt hu.1)
    grind
  have uuN : uu * (uu * N) ≤ 1 / 10000000 * (uu * N) := Rat.mul_le_mul_of_nonneg_right hu.2 uN
  have T1 : T * T ≤ (1 + 42 / 10 * uu) * (R * R) := by grind
  have T2 : (1 - 42 / 10 * uu) * (R * R) ≤ T * T := by grind
  have tr := sq_sides (A := 0) hT h0 T1 T2
  -- the parts
  have xN : x * x ≤ 102 / 100 * (R * R) ∧ y * y ≤ 102 / 100 * (R * R) := by
    have := sq_nn x; have := sq_nn y
    have := Rat.mul_le_mul_of_nonneg_right hu.2 N0
    have := Rat.mul_le_mul_of_nonneg_right hu.2 (Rat.le_of_lt hRR)
    constructor <;> grind
  have xa : ab x ≤ 102 / 100 * R ∧ ab y ≤ 102 / 100 * R := by
    constructor
    · apply le_of_sq (by grind); rw [sq_ab']; grind
    · apply le_of_sq (by grind); rw [sq_ab']; grind
  have dx : ∀ {z : Rat}, ab z ≤ 102 / 100 * R → ab (δ * z) ≤ 1 / 100000 * (uu * R) := by
    intro z hz
    rw [ab_mul]
    have := mul_mono (ab_nn δ) (show ab δ ≤ 1 / 1000000 * uu by grind) (ab_nn z) hz
    have := Rat.mul_pos hu.1 h0
    grind
  have sI : ∀ {z : Rat}, ab z ≤ 1001 / 1000 → ab (z * I) ≤ 1042 / 100 * (uu * R) := by
    intro z hz
    rw [ab_mul]
    have := mul_mono (ab_nn z) hz (ab_nn I) hI
    have := Rat.mul_pos hu.1 h0
    grind
  have q1 := dx xa.1
  have q2 := dx xa.2
  have q3 := sI Ca.2
  have q4 := sI Ca.1
  have uR : 0 ≤ uu * R := Rat.le_of_lt (Rat.mul_pos hu.1 h0)
  refine ⟨R, h0, tr, ?_, ?_⟩
  · have e : x - C * R = S * I + -(δ * x) := by grind
    have := ab_add (S * I) (-(δ * x))
    rw [ab_neg] at this
    rw [e]
    grind
  · have e : y - S * R = -(C * I) + -(δ * y) := by grind
    have := ab_add (-(C * I)) (-(δ * y))
    rw [ab_neg, ab_neg] at this
    rw [e]
    grind
/-- one part of the place that is found again. -/
theorem part_back {x C c R T b : Rat} (h0 : 0 < R) (hT : 0 < T) (tr : ab (T - R) ≤ 22 / 10 * (uu * R)) (hx : ab (x - C * R) ≤ 106 / 10 * (uu * R)) (hC : ab C ≤ 1001 / 1000) (hc : ab (c - C) ≤ 61 / 10 * uu)
    (hb : ab (b - T * c) ≤ uu * ab (T * c) + et) (he : et ≤ 1 / 100 * (uu * T)) : ab (b - x) ≤ 22 * (uu * T) := by
  have hu : 0 < uu ∧ uu ≤ 1 / 10000000 := by decide +kernel
  have uR : 0 ≤ uu * R := Rat.le_of_lt (Rat.mul_pos hu.1 h0)
  have uRR : uu * R ≤ 1 / 10000000 * R := Rat.mul_le_mul_of_nonneg_right hu.2 (Rat.le_of_lt h0)
  have tr' := ab_le.1 tr
  have RT : R ≤ 1001 / 1000 * T ∧ T ≤ 1001 / 1000 * R := by constructor <;> grind
  have uRT := Rat.mul_le_mul_of_nonneg_left RT.1 (Rat.le_of_lt hu.1)
  have uT : 0 ≤ uu * T := Rat.le_of_lt (Rat.mul_pos hu.1 hT)
  have k1 : ab (C * (T - R)) ≤ 221 / 100 * (uu * R) := by
    rw [ab_mul]
    have := mul_mono (ab_nn C) hC (ab_nn _) tr
    grind
  have k2 : ab (T * (c - C)) ≤ 61 / 10 * (uu * T) := by
    rw [ab_mul, ab_pos (Rat.le_of_lt hT)]
    have := Rat.mul_le_mul_of_nonneg_left hc (Rat.le_of_lt hT)
    grind
  have ca : ab c ≤ 101 / 100 := by
    have := ab_add (c - C) C
    rw [show c - C + C = c by grind] at this
    grind
  have k3 : ab (T * c) ≤ 101 / 100 * T := by
    rw [ab_mul, ab_pos (Rat.le_of_lt hT)]
    have := Rat.mul_le_mul_of_nonneg_left ca (Rat.le_of_lt hT)
    grind
  have k4 := Rat.mul_le_mul_of_nonneg_left k3 (Rat.le_of_lt hu.1)
  have e : b - x = (b - T * c) + (T * (c - C) + (C * (T - R) + -(x - C * R))) := by grind
  have s1 := ab_add (b - T * c) (T * (c - C) + (C * (T - R) + -(x - C * R)))
  have s2 := ab_add (T * (c - C)) (C * (T - R) + -(x - C * R))
  have s3 := ab_add (C * (T - R)) (-(x - C * R))
  rw [ab_neg] at s3
  rw [e]
  grind
theorem apart_sum {p q T : Rat} (hT : 0 < T) (h1 : ab p ≤ 23 * (uu * T)) (h2 : ab q ≤ 23 * (uu * T)) {L : Rat} (hL : 0 ≤ L) (t : 10 * (L * L) ≤ (10 + 41 * uu) * (p * p + q * q)) : L ≤ 33 * (uu * T) := by
  have hu : 0 < uu ∧ uu ≤ 1 / 10000000 := by decide +kernel
  have uT := Rat.mul_pos hu.1 hT
  generalize uu * T = z at *
  have a := mul_mono (ab_nn p) h1 (ab_nn p) h1
  have b := mul_mono (ab_nn q) h2 (ab_nn q) h2
  rw [sq_ab'] at a b
  have zz := Rat.mul_pos uT uT
  have P : 0 ≤ p * p + q * q := by have := sq_nn p; have := sq_nn q; grind
  have uP := Rat.mul_le_mul_of_nonneg_right hu.2 P
  apply le_of_sq (Rat.le_of_lt (by grind))
  have e : 23 * z * (23 * z) = 529 * (z * z) := by grind
  have e2 : 33 * z * (33 * z) = 1089 * (z * z) := by grind
  rw [e] at a b
  rw [e2]
  generalize p * p = P1 at *
  generalize q * q = Q1 at *
  generalize z * z = Z at *
  grind
theorem V.P44 : V 4409024035195715584 (512 * uu) := by
  have h := vfrac (w := 4409024035195715584) (N := 1) (D := 17592186044416) (by decide) (by decide) (by decide +kernel)
  rw [show ((1 : Nat) : Rat) / ((17592186044416 : Nat) : Rat) = 512 * uu by decide +kernel] at h
  exact h
/-- NEAR: the law's own comparison. -/
theorem near_back {p q f g l : Nat} {bx b y x T : Rat} (hp : V p bx) (hq : V q b) (hf : V f x) (hg : V g y) (hl : V l T) (hT : 0 < T) (T1 : pw (-403) ≤ T) (T2 : T ≤ pw 404) (h1 : ab (bx - x) ≤ 22 * (uu * T)) (h2 : ab (b - y) ≤ 22 * (uu * T)) :
    fle (lenF (fsub p f) (fsub q g)) (fmul 4409024035195715584 l) = true := by
  have hu : 0 < uu ∧ uu ≤ 1 / 10000000 := by decide +kernel
  have uT := Rat.mul_pos hu.1 hT
  have he := et_small T1
  have hB := BG_big
  have hBB := big404
  have uTT : uu * T ≤ T := by have := Rat.mul_le_mul_of_nonneg_right hu.2 (Rat.le_of_lt hT); grind
  obtain ⟨m, hm, em⟩ := V.P44.mul hl (by
    rw [ab_pos (Rat.mul_nonneg (by decide +kernel) (Rat.le_of_lt hT))]
    grind)
  have m1 : 511 * (uu * T) ≤ m := by
    have e : ab (512 * uu * T) = 512 * (uu * T) := by rw [ab_pos (Rat.mul_nonneg (by decide +kernel) (Rat.le_of_lt hT))]; grind
    rw [e] at em
    have a := (ab_le.1 em).1
    have := Rat.mul_le_mul_of_nonneg_right hu.2 (Rat.le_of_lt uT)
    have e3 : uu * (512 * (uu * T)) = 512 * (uu * (uu * T)) := by grind
    rw [e3] at a
    generalize uu * (uu * T) = z at *
    have e2 : 512 * uu * T = 512 * (uu * T) := by grind
    rw [e2] at a
    grind
  obtain ⟨d1, w1, k1⟩ := hp.sub hf (by grind)
  obtain ⟨d2, w2, k2⟩ := hq.sub hg (by grind)
  have small : ∀ {d z : Rat}, ab z ≤ 22 * (uu * T) → ab (d - z) ≤ uu * ab z → ab d ≤ 23 * (uu * T) := by
    intro d z hz hd
    have a := ab_add (d - z) z
    rw [show d - z + z = d by grind] at a
    have := Rat.mul_le_mul_of_nonneg_right hu.2 (ab_nn z)
    grind
  have s1 := small h1 k1
  have s2 := small h2 k2
  generalize fsub p f = u at *
  generalize fsub q g = v at *
  have hm0 : 0 < m := by grind
  by_cases h0 : d1 ≠ 0 ∨ d2 ≠ 0
  · obtain ⟨L, hL, t1, _, t3⟩ := len_true w1 w2 h0
    have Lb := apart_sum hT s1 s2 (Rat.le_of_lt hL) t1
    have fin : ∀ {z : Rat}, V (lenF u v) z → z ≤ L + et → fle (lenF u v) (fmul 4409024035195715584 l) = true := by
      intro z hz h
      rw [fle_val hz hm]
      exact decide_eq_true (by grind)
    rcases t3 with ⟨lr, t3⟩ | ⟨e, t3⟩
    · refine fin (V.pos lr) ?_
      have := et_pos
      rcases t3 with t3 | ⟨t3, _⟩
      · rw [t3]; grind
      · have := (ab_le.1 t3).2; grind
    · exfalso
      have hb : BG ≤ (mval 9218868437227405311 : Rat) / (U : Rat) := by decide +kernel
      have := pw_pos 404
      grind
  · have z1 : d1 = 0 := by grind
    have z2 : d2 = 0 := by grind
    subst z1 z2
    rw [len_zero w1 w2, fle_val V.nil hm]
    exact decide_eq_true (Rat.le_of_lt hm0)
/-- THE PLACE of a length and an angle. -/
theorem there_back {f g : Nat} {x y : Rat} (hf : V f x) (hg : V g y) (mx : Mild x) (my : Mild y) (h0 : x ≠ 0 ∨ y ≠ 0) :
    fle (lenF (fsub (fmul (lenF f g) (turnC (ofF g f))) f) (fsub (fmul (lenF f g) (turnS (ofF g f))) g)) (fmul 4409024035195715584 (lenF f g)) = true ∧ rung (ofF g f) ≤ 4614256656552045848 ∧ ofF g f < 18446744073709551616 ∧ fin (ofF g f) = true := by
  have hu : 0 < uu ∧ uu ≤ 1 / 10000000 := by decide +kernel
  obtain ⟨T, hl, _, hT, t1, t2, T1, T2⟩ := len_mild hf hg mx my h0
  have h0' : 0 < ab y + ab x := by
    have n1 := ab_nn x
    have n2 := ab_nn y
    have pos : ∀ {z : Rat}, z ≠ 0 → 0 < ab z := by intro z h; unfold ab; grind
    rcases h0 with k | k
    · have := pos k; grind
    · have := pos k; grind
  obtain ⟨t, ht, ln, _, rt, _, ta⟩ := of_ok hg hf h0'
  refine ⟨?_, rt, ht.lt, ht.fin⟩
  have hfit : fit (ofF g f) = true := by
    show fle (fabs (ofF g f)) 4697254411347427328 = true
    have h20 := vnum (w := 4697254411347427328) (k := 1048576) (by decide) (by decide +kernel)
    rw [fabs_of (fin_notN ht.fin), fle_val ht.absv h20]
    exact decide_eq_true (Rat.le_trans ta (by decide +kernel))
  obtain ⟨n, c, s, a1, a2, a3, a4, vc, vs⟩ := turn_val ht (by grind) hfit
  have hn : n.natAbs ≤ 3 := by
    rcases (show n.natAbs ≤ 3 ∨ 4 ≤ n.natAbs by omega) with q | q
    · exact q
    · exfalso
      obtain ⟨p0, _, p2⟩ := hp_size
      have c := cast_le.2 q
      rw [natAbsQ] at c
      have e : ((4 : Nat) : Rat) = 4 := rfl
      rw [e] at c
      have k := Rat.mul_le_mul_of_nonneg_right c p0
      have a := ab_sub t (t - (n : Rat) * hp)
      rw [show t - (t - (n : Rat) * hp) = (n : Rat) * hp by grind, ab_mul, ab_pos p0] at a
      generalize ab (n : Rat) * hp = z at *
      generalize ab (t - (n : Rat) * hp) = z2 at *
      generalize hp = H at *
      grind
  obtain ⟨b1, b2⟩ := back_three ta hn (Rat.le_trans a1 (by decide +kernel))
  obtain ⟨r1, r2⟩ := rot_near (k := n % 4) a3 a4
  have hw : tw 100 ≤ 1 / 100 * uu ∧ tw 440 ≤ tw 400 := by decide +kernel
  have c1 : ab ((rot (n % 4) c s).1 - (CS t).re) ≤ 61 / 10 * uu := by
    have := ab_tri (rot (n % 4) c s).1 (rot (n % 4) (CS (t - (n : Rat) * hp)).re (CS (t - (n : Rat) * hp)).im).1 (CS t).re
    grind
  have c2 : ab ((rot (n % 4) c s).2 - (CS t).im) ≤ 61 / 10 * uu := by
    have := ab_tri (rot (n % 4) c s).2 (rot (n % 4) (CS (t - (n : Rat) * hp)).re (CS (t - (n : Rat) * hp)).im).2 (CS t).im
    grind
  have len := (CS_len (y := t) (Rat.le_trans ta (by decide +kernel))).1
  have up := unit_parts (b := t) (Rat.le_trans ta (by decide +kernel))
  generalize (rot (n % 4) c s).1 = c' at *
  generalize (rot (n % 4) c s).2 = s' at *
  obtain ⟨l0, l1⟩ := ln
  obtain ⟨R, hR, k0, k1, k2⟩ := back_core (δ := (CS t).re * (CS t).re + (CS t).im * (CS t).im - 1) l0 l1 (by grind) (Rat.le_trans len hw.2) hT t1 t2
  have he := et_small T1
  have hBB := big404
  have pb : ∀ {C c : Rat}, ab C ≤ 1001 / 1000 → ab (c - C) ≤ 61 / 10 * uu → ab (T * c) ≤ BG := by
    intro C c h1 h2
    have a := ab_add (c - C) C
    rw [show c - C + C = c by grind] at a
    rw [ab_mul, ab_pos (Rat.le_of_lt hT)]
    have := mul_mono (Rat.le_of_lt hT) T2 (ab_nn c) (show ab c ≤ 2 by grind)
    have := pw_pos 404
    grind
  obtain ⟨p, hp, ep⟩ := hl.mul vc (pb up.1 c1)
  obtain ⟨q, hq, eq⟩ := hl.mul vs (pb up.2 c2)
  exact near_back hp hq hf hg hl hT T1 T2 (part_back hR hT k0 k1 up.1 c1 ep he) (part_back hR hT k0 k2 up.2 c2 eq he)
end Go.Proofs.Ytcfkhhnkboealaa
