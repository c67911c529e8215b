/- The logarithm's sum: e to twice it is the quotient of sum and difference, by small steps. No text of the program. -/
import Derived.Test.YtcfkhhnkboealaaDoorHb
namespace Go.Proofs.YtcfkhhnkboealaaDoor
open Go.RowKit
set_option linter.unusedVariables false
set_option linter.unusedSimpArgs false
set_option maxRecDepth 100000
set_option maxHeartbeats 4000000
open Turns Sizes
/-- powers, the sums of the logarithm, and their slopes. -/
def pn (x : Rat) : Nat → Rat
  | 0 => 1
  | n + 1 => pn x n * x
theorem pn_nn {x : Rat} (h : 0 ≤ x) : ∀ n, 0 ≤ pn x n
  | 0 => by show (0 : Rat) ≤ 1; decide +kernel
  | n + 1 => Rat.mul_nonneg (pn_nn h n) h
theorem pn_mono {x y : Rat} (h : 0 ≤ x) (k : x ≤ y) : ∀ n, pn x n ≤ pn y n
  | 0 => Rat.le_refl
  | n + 1 => mul_mono (pn_nn h n) (pn_mono h k n) h k
theorem cast_succ (n : Nat) : ((n + 1 : Nat) : Rat) = (n : Rat) + 1 := by grind
theorem pn_diff {x y : Rat} (h : 0 ≤ x) (k : x ≤ y) : ∀ n : Nat, pn y (n + 1) - pn x (n + 1) ≤ ((n + 1 : Nat) : Rat) * ((y - x) * pn y n) ∧ ((n + 1 : Nat) : Rat) * ((y - x) * pn x n) ≤ pn y (n + 1) - pn x (n + 1)
  | 0 => by
    have e : ((0 + 1 : Nat) : Rat) = 1 := rfl
    simp only [pn]
    rw [e]
    constructor <;> grind
  | n + 1 => by
    obtain ⟨a, b⟩ := pn_diff h k n
    have p := pn_nn (Rat.le_trans h k) (n + 1)
    have q := pn_nn h (n + 1)
    have m := pn_mono h k (n + 1)
    have hy : 0 ≤ y := Rat.le_trans h k
    have a' := Rat.mul_le_mul_of_nonneg_right a hy
    have b' := Rat.mul_le_mul_of_nonneg_right b h
    have hd : 0 ≤ y - x := by grind
    have m1 := Rat.mul_le_mul_of_nonneg_left m hd
    have e1 : pn y (n + 1 + 1) = pn y (n + 1) * y := rfl
    have e2 : pn x (n + 1 + 1) = pn x (n + 1) * x := rfl
    have e3 : pn y (n + 1) = pn y n * y := rfl
    have e4 : pn x (n + 1) = pn x n * x := rfl
    have e5 := cast_succ (n + 1)
    generalize ((n + 1 : Nat) : Rat) = N at *
    rw [e5, e1, e2]
    generalize hA : pn y (n + 1) = A at *
    generalize hB : pn x (n + 1) = B at *
    generalize pn y n = C at *
    generalize pn x n = D at *
    clear hA hB e1 e2 e5
    subst e3 e4
    constructor <;> grind
def AT (x : Rat) : Nat → Rat
  | 0 => 0
  | k + 1 => AT x k + pn x (2 * k + 1) / ((2 * k + 1 : Nat) : Rat)
def GS (x : Rat) : Nat → Rat
  | 0 => 0
  | k + 1 => GS x k + pn x (2 * k)
theorem GS_sum (x : Rat) : ∀ k, GS x k * (1 - x * x) = 1 - pn x (2 * k)
  | 0 => by simp only [GS, pn]; grind
  | k + 1 => by
    have h := GS_sum x k
    have e : pn x (2 * (k + 1)) = pn x (2 * k) * x * x := rfl
    show (GS x k + pn x (2 * k)) * (1 - x * x) = _
    rw [e]
    grind
theorem AT_diff {x y : Rat} (h : 0 ≤ x) (k : x ≤ y) : ∀ n, AT y n - AT x n ≤ (y - x) * GS y n ∧ (y - x) * GS x n ≤ AT y n - AT x n
  | 0 => by simp only [AT, GS]; constructor <;> grind
  | n + 1 => by
    obtain ⟨a, b⟩ := AT_diff h k n
    obtain ⟨c, d⟩ := pn_diff h k (2 * n)
    show AT y n + pn y (2 * n + 1) / ((2 * n + 1 : Nat) : Rat) - (AT x n + pn x (2 * n + 1) / ((2 * n + 1 : Nat) : Rat)) ≤ (y - x) * (GS y n + pn y (2 * n)) ∧ (y - x) * (GS x n + pn x (2 * n)) ≤ AT y n + pn y (2 * n + 1) / ((2 * n + 1 : Nat) : Rat) - (AT x n + pn x (2 * n + 1) / ((2 * n + 1 : Nat) : Rat))
    have hN : (0 : Rat) < ((2 * n + 1 : Nat) : Rat) := by
      have h1 : ((1 : Nat) : Rat) ≤ ((2 * n + 1 : Nat) : Rat) := cast_le.2 (by omega)
      have e : ((1 : Nat) : Rat) = 1 := rfl
      grind
    generalize ((2 * n + 1 : Nat) : Rat) = N at *
    have e : pn y (2 * n + 1) / N - pn x (2 * n + 1) / N = (pn y (2 * n + 1) - pn x (2 * n + 1)) / N := by grind
    have u : (pn y (2 * n + 1) - pn x (2 * n + 1)) / N ≤ (y - x) * pn y (2 * n) := by rw [div_le hN]; grind
    have l : (y - x) * pn x (2 * n) ≤ (pn y (2 * n + 1) - pn x (2 * n + 1)) / N := by rw [le_div hN]; grind
    constructor <;> grind
theorem GS_nn {x : Rat} (h : 0 ≤ x) : ∀ k, 0 ≤ GS x k
  | 0 => Rat.le_refl
  | k + 1 => by
    have := GS_nn h k
    have := pn_nn h (2 * k)
    show 0 ≤ GS x k + pn x (2 * k)
    grind
/-- one small step up. -/
theorem step_up {u h d G : Rat} (hu : 0 ≤ u) (hh : 0 ≤ h) (hm : u + h ≤ 1 / 5) (hd : d ≤ 2 * (h * G)) (hG : G * (1 - (u + h) * (u + h)) ≤ 1) : (1 + d) * (1 - (u + h)) * (1 + u) ≤ (1 - u) * (1 + (u + h)) ∧ d ≤ 21 / 10 * h := by
  have hv : 0 ≤ u + h := by grind
  have v2 := mul_mono hv hm hv hm
  have hg : G ≤ 105 / 100 := by
    rcases (show G ≤ 105 / 100 ∨ 105 / 100 < G by grind) with q | q
    · exact q
    · have := Rat.mul_le_mul_of_nonneg_right (Rat.le_of_lt q) (show 0 ≤ 1 - (u + h) * (u + h) by grind)
      grind
  have hd2 : d ≤ 21 / 10 * h := by
    have := Rat.mul_le_mul_of_nonneg_left hg hh
    grind
  refine ⟨?_, hd2⟩
  have k1 := Rat.mul_le_mul_of_nonneg_left hG hh
  -- d (1 - v^2) <= 2 h
  have k2 : d * (1 - (u + h) * (u + h)) ≤ 2 * h := by
    have := Rat.mul_le_mul_of_nonneg_right hd (show 0 ≤ 1 - (u + h) * (u + h) by grind)
    grind
  have k3 := Rat.mul_le_mul_of_nonneg_right k2 (show 0 ≤ 1 + u by grind)
  have hpos : 0 < 1 + (u + h) := by grind
  refine Rat.le_of_mul_le_mul_right (c := 1 + (u + h)) ?_ hpos
  have p := Rat.mul_nonneg hh hh
  grind
/-- and down. -/
theorem step_down {u h d G p : Rat} (hu : 0 ≤ u) (hh : 0 ≤ h) (hm : u + h ≤ 1 / 5) (hd : 2 * (h * G) ≤ d) (hG : G * (1 - u * u) = 1 - p) (hp0 : 0 ≤ p) : (1 - u) * (1 + (u + h)) * (1 - (4 * (h * h) + 4 * (h * p))) ≤ (1 + d) * (1 - (u + h)) * (1 + u) := by
  have hpos : 0 < 1 - u := by grind
  refine Rat.le_of_mul_le_mul_right (c := 1 - u) ?_ hpos
  have u2 := mul_mono hu (show u ≤ 1 / 5 by grind) hu (show u ≤ 1 / 5 by grind)
  have k1 : 2 * (h * (1 - p)) ≤ d * (1 - u * u) := by
    have := Rat.mul_le_mul_of_nonneg_right hd (show 0 ≤ 1 - u * u by grind)
    rw [← hG]
    grind
  have k2 := Rat.mul_le_mul_of_nonneg_right k1 (show 0 ≤ 1 - (u + h) by grind)
  have q0 : 0 ≤ 4 * (h * h) + 4 * (h * p) := by
    have := Rat.mul_nonneg hh hh
    have := Rat.mul_nonneg hh hp0
    grind
  have a1 : (16 / 25 : Rat) ≤ (1 - u) * (1 - u) * (1 + (u + h)) := by
    have := mul_mono (by decide +kernel : (0 : Rat) ≤ 4 / 5) (show 4 / 5 ≤ 1 - u by grind) (by decide +kernel : (0 : Rat) ≤ 4 / 5) (show 4 / 5 ≤ 1 - u by grind)
    have := mul_mono (by decide +kernel : (0 : Rat) ≤ 4 / 5 * (4 / 5)) this (by decide +kernel : (0 : Rat) ≤ 1) (show 1 ≤ 1 + (u + h) by grind)
    grind
  have a2 := Rat.mul_le_mul_of_nonneg_right a1 q0
  have hp2 := Rat.mul_nonneg hh hp0
  have hp3 := Rat.mul_nonneg hp2 (show 0 ≤ u + h by grind)
  have hh2 := Rat.mul_nonneg hh hh
  generalize hq : 4 * (h * h) + 4 * (h * p) = q at *
  have e1 : (1 - u) * (1 + (u + h)) * (1 - q) * (1 - u) = (1 - u) * (1 - u) * (1 + (u + h)) - (1 - u) * (1 - u) * (1 + (u + h)) * q := by grind
  have e2 : (1 + d) * (1 - (u + h)) * (1 + u) * (1 - u) = (1 - u * u) * (1 - (u + h)) + d * (1 - u * u) * (1 - (u + h)) := by grind
  rw [e1, e2]
  have e3 : 2 * (h * (1 - p)) * (1 - (u + h)) = 2 * (h * (1 - (u + h))) - 2 * (h * p) + 2 * (h * p * (u + h)) := by grind
  rw [e3] at k2
  have e4 : (1 - u) * (1 - u) * (1 + (u + h)) = (1 - u * u) * (1 - (u + h)) + 2 * (h * (1 - (u + h))) + 2 * (h * h) := by grind
  generalize (1 - u) * (1 - u) * (1 + (u + h)) = X at *
  generalize (1 - u * u) * (1 - (u + h)) = Y at *
  generalize d * (1 - u * u) * (1 - (u + h)) = W at *
  generalize h * (1 - (u + h)) = V at *
  generalize h * p * (u + h) = Q at *
  clear e1 e2 e3 hG k1 u2 a1
  grind
theorem sqr_up {z : Rat} (h : 0 ≤ z) : ∀ k : Nat, ((2 ^ k : Nat) : Rat) * z ≤ 4 / 10 → sqr k (1 + z) ≤ 1 + ((2 ^ k : Nat) : Rat) * z + ((2 ^ k : Nat) : Rat) * z * (((2 ^ k : Nat) : Rat) * z)
  | 0, _ => by
    have e : ((2 ^ 0 : Nat) : Rat) = 1 := rfl
    have := Rat.mul_nonneg h h
    show 1 + z ≤ _
    rw [e]
    grind
  | k + 1, hk => by
    have e : ((2 ^ (k + 1) : Nat) : Rat) = 2 * ((2 ^ k : Nat) : Rat) := by rw [Nat.pow_succ, cast_mul]; have : ((2 : Nat) : Rat) = 2 := rfl; grind
    rw [e] at hk ⊢
    have n : 0 ≤ ((2 ^ k : Nat) : Rat) * z := Rat.mul_nonneg (cast_nn _) h
    have ih := sqr_up h k (by grind)
    have p := sqr_pos (show 0 < 1 + z by grind) k
    have m := mul_mono (Rat.le_of_lt p) ih (Rat.le_of_lt p) ih
    generalize hZ : ((2 ^ k : Nat) : Rat) * z = Z at *
    have h1 : Z ≤ 2 / 10 := by grind
    have q := Rat.mul_nonneg n n
    have q2 := Rat.mul_le_mul_of_nonneg_left h1 q
    have q3 := mul_mono n h1 n h1
    have q4 := Rat.mul_le_mul_of_nonneg_right q3 q
    show sqr k (1 + z) * sqr k (1 + z) ≤ _
    have e2 : 2 * ((2 ^ k : Nat) : Rat) * z = 2 * Z := by rw [← hZ]; grind
    rw [e2]
    grind
theorem XX_le {d : Rat} (h : 0 ≤ d) (h1 : d ≤ 1 / 10) : XX d ≤ 1 + d + 2 * (d * d) := by
  have t : tw 16 = 1 / 65536 := by decide +kernel
  have hy0 : 0 ≤ d * tw 16 := by rw [t]; grind
  have hy1 : d * tw 16 ≤ 1 / 655360 := by rw [t]; grind
  obtain ⟨y, hy⟩ : ∃ y, y = d * tw 16 := ⟨_, rfl⟩
  have hT : TT y 60 ≤ 1 + (y + y * y) := by
    have h0 : 0 ≤ y := by rw [hy]; exact hy0
    have e3 : ((1 + 2 : Nat) : Rat) = 3 := rfl
    have h2 := tail_le' h0 (n := 1) (by rw [e3]; grind) 59
    have e1' : TT y 1 = 1 + y := by
      rw [TT_succ, TT_zero, ee_rat, ee_zero]
      simp
      grind
    have e2' : ee y (1 + 1) = y * y * (1 / 2) := by
      rw [ee_rat, show ee y 1 = y by rw [ee_rat, ee_zero]; simp; grind]
      have : ((1 + 1 : Nat) : Rat) = 2 := rfl
      rw [this]
      grind
    rw [show 1 + 59 = 60 from rfl, e1', e2'] at h2
    grind
  have hz : 0 ≤ y + y * y := by rw [hy]; have := Rat.mul_nonneg hy0 hy0; grind
  have hTp : 0 ≤ TT y 60 := by have := TT_one (y := y) (by rw [hy]; exact hy0) 60; grind
  have h2 := (sqr_mono hTp hT 16).2
  have e : ((2 ^ 16 : Nat) : Rat) = 65536 := by decide +kernel
  have hd : 65536 * y = d := by rw [hy, t]; grind
  have h3 := sqr_up hz 16 (by
    rw [e]
    have := Rat.mul_le_mul_of_nonneg_right (show y ≤ 1 / 655360 by rw [hy]; exact hy1) (show 0 ≤ y by rw [hy]; exact hy0)
    grind)
  rw [e] at h3
  have h4 : XX d = sqr 16 (TT y 60) := by unfold XX; rw [hy]
  rw [h4]
  refine Rat.le_trans h2 (Rat.le_trans h3 ?_)
  have q := Rat.mul_nonneg h h
  have q2 := Rat.mul_le_mul_of_nonneg_right h1 q
  have q3 := Rat.mul_le_mul_of_nonneg_right h1 (Rat.mul_nonneg h q)
  have ey : 65536 * (y + y * y) = d + 1 / 65536 * (d * d) := by grind
  rw [ey]
  grind
theorem AT_size {x : Rat} (h : 0 ≤ x) (h2 : x ≤ 1 / 5) : 0 ≤ AT x 13 ∧ AT x 13 ≤ 22 / 100 := by
  obtain ⟨a, b⟩ := AT_diff (x := 0) (y := x) Rat.le_refl h 13
  have z : AT 0 13 = 0 := by decide +kernel
  rw [z, show x - 0 = x by grind, show AT x 13 - 0 = AT x 13 by grind] at a b
  have g0 := GS_nn (x := 0) Rat.le_refl 13
  have g := GS_nn h 13
  have hs := GS_sum x 13
  have hp := pn_nn h (2 * 13)
  have x2 := mul_mono h h2 h h2
  have hg : GS x 13 ≤ 11 / 10 := by
    have := Rat.mul_le_mul_of_nonneg_left (show 24 / 25 ≤ 1 - x * x by grind) g
    grind
  have h3 := Rat.mul_nonneg h g0
  have h4 := mul_mono h h2 g hg
  constructor <;> grind
/-- one small step of the exponential of the sum. -/
theorem FF_step {u h : Rat} (hu : 0 ≤ u) (hh : 0 ≤ h) (hm : u + h ≤ 1 / 5) (hh1 : h ≤ tw 282) :
    XX (2 * AT (u + h) 13) * (1 - (u + h)) * (1 + u) ≤ XX (2 * AT u 13) * (1 - u) * (1 + (u + h)) * (1 + tw 550) ∧
    XX (2 * AT u 13) * (1 - u) * (1 + (u + h)) * (1 - (tw 552 + 4 * (h * h) + 4 * (h * pn u 26))) ≤ XX (2 * AT (u + h) 13) * (1 - (u + h)) * (1 + u) := by
  obtain ⟨a0, a1⟩ := AT_size hu (by grind)
  obtain ⟨b0, b1⟩ := AT_size (x := u + h) (by grind) hm
  obtain ⟨c, d⟩ := AT_diff hu (show u ≤ u + h by grind) 13
  rw [show u + h - u = h by grind] at c d
  obtain ⟨D, hD⟩ : ∃ D, D = 2 * AT (u + h) 13 - 2 * AT u 13 := ⟨_, rfl⟩
  have gu := GS_nn hu 13
  have gv := GS_nn (show 0 ≤ u + h by grind) 13
  have hD0 : 0 ≤ D := by have := Rat.mul_nonneg hh gu; grind
  have pu := pn_nn hu 26
  have pv := pn_nn (show 0 ≤ u + h by grind) 26
  obtain ⟨s1, s2⟩ := step_up (d := D) (G := GS (u + h) 13) hu hh hm (by grind) (by rw [GS_sum]; grind)
  have s3 := step_down (d := D) (G := GS u 13) (p := pn u 26) hu hh hm (by grind) (GS_sum u 13) pu
  have t282 : tw 282 ≤ 1 / 100 := by decide +kernel
  have t0 := tw_pos 282
  have x1 := XX_ge hD0
  have x2 := XX_le hD0 (by grind)
  have hadd := (XX_add (a := 2 * AT u 13) (b := D) (by rw [ab_pos (by grind)]; grind) (by rw [ab_pos hD0]; grind))
  rw [show 2 * AT u 13 + D = 2 * AT (u + h) 13 by grind] at hadd
  obtain ⟨hA, hB⟩ := hadd
  have hA' := ab_le.1 hA
  have hX := XX_pos (a := 2 * AT u 13) (by rw [ab_pos (by grind)]; grind)
  have t553 : tw 553 ≤ 1 / 100 := by decide +kernel
  have t5p := tw_pos 553
  generalize hXu : XX (2 * AT u 13) = X at *
  generalize hXv : XX (2 * AT (u + h) 13) = Y at *
  generalize XX D = E at *
  -- D^2 is tiny
  have dd : D * D ≤ 1 / 10 * tw 552 := by
    have m1 := mul_mono hD0 s2 hD0 s2
    have m2 := mul_mono hh hh1 hh hh1
    have t2 : 441 / 100 * (tw 282 * tw 282) ≤ 1 / 10 * tw 552 := by decide +kernel
    grind
  have t552 : tw 553 = 1 / 2 * tw 552 ∧ tw 550 = 4 * tw 552 ∧ tw 552 ≤ 1 / 1000 := by decide +kernel
  have t52 := tw_pos 552
  have Y1 : Y * (1 - tw 553) ≤ X * E := by grind
  have Y2 : X * E ≤ Y * (1 + tw 553) := by grind
  have E1 : E ≤ (1 + D) * (1 + 2 / 10 * tw 552) := by
    have := Rat.mul_nonneg hD0 (Rat.le_of_lt t52)
    grind
  have P1 : 0 < (1 - (u + h)) * (1 + u) := Rat.mul_pos (by grind) (by grind)
  have P2 : 0 ≤ X * (1 - u) * (1 + (u + h)) := Rat.mul_nonneg (Rat.mul_nonneg (Rat.le_of_lt hX) (by grind)) (by grind)
  constructor
  · -- up
    have k1 : X * E ≤ X * ((1 + D) * (1 + 2 / 10 * tw 552)) := Rat.mul_le_mul_of_nonneg_left E1 (Rat.le_of_lt hX)
    have k2 := Rat.mul_le_mul_of_nonneg_right (Rat.le_trans Y1 k1) (Rat.le_of_lt P1)
    have k3 := Rat.mul_le_mul_of_nonneg_left s1 (Rat.mul_nonneg (Rat.le_of_lt hX) (show 0 ≤ 1 + 2 / 10 * tw 552 by grind))
    have k4 : Y * (1 - tw 553) * ((1 - (u + h)) * (1 + u)) ≤ X * (1 - u) * (1 + (u + h)) * (1 + 2 / 10 * tw 552) := by
      have e1 : X * ((1 + D) * (1 + 2 / 10 * tw 552)) * ((1 - (u + h)) * (1 + u)) = X * (1 + 2 / 10 * tw 552) * ((1 + D) * (1 - (u + h)) * (1 + u)) := by grind
      have e2 : X * (1 + 2 / 10 * tw 552) * ((1 - u) * (1 + (u + h))) = X * (1 - u) * (1 + (u + h)) * (1 + 2 / 10 * tw 552) := by grind
      rw [e1] at k2
      rw [e2] at k3
      exact Rat.le_trans k2 k3
    have hp : 0 < 1 - tw 553 := by grind
    refine Rat.le_of_mul_le_mul_right (c := 1 - tw 553) ?_ hp
    have e3 : Y * (1 - tw 553) * ((1 - (u + h)) * (1 + u)) = Y * (1 - (u + h)) * (1 + u) * (1 - tw 553) := by grind
    rw [e3] at k4
    refine Rat.le_trans k4 ?_
    rw [t552.1, t552.2.1]
    have q : 1 + 2 / 10 * tw 552 ≤ (1 + 4 * tw 552) * (1 - 1 / 2 * tw 552) := by
      have := Rat.mul_le_mul_of_nonneg_right t552.2.2 (Rat.le_of_lt t52)
      grind
    have := Rat.mul_le_mul_of_nonneg_left q P2
    generalize X * (1 - u) * (1 + (u + h)) = Z at *
    generalize tw 552 = τ at *
    grind
  · -- down
    have k1 : X * (1 + D) ≤ X * E := Rat.mul_le_mul_of_nonneg_left x1 (Rat.le_of_lt hX)
    have k2 := Rat.mul_le_mul_of_nonneg_right (Rat.le_trans k1 Y2) (Rat.le_of_lt P1)
    have k3 := Rat.mul_le_mul_of_nonneg_left s3 (Rat.le_of_lt hX)
    have hp : 0 < 1 + tw 553 := by grind
    obtain ⟨q, hq⟩ : ∃ q, q = 4 * (h * h) + 4 * (h * pn u 26) := ⟨_, rfl⟩
    have hq0 : 0 ≤ q := by
      have := Rat.mul_nonneg hh hh
      have := Rat.mul_nonneg hh pu
      grind
    rw [← hq] at k3
    rw [show tw 552 + 4 * (h * h) + 4 * (h * pn u 26) = tw 552 + q by grind]
    have k4 : X * (1 - u) * (1 + (u + h)) * (1 - q) ≤ Y * (1 - (u + h)) * (1 + u) * (1 + tw 553) := by
      have e1 : X * ((1 - u) * (1 + (u + h)) * (1 - q)) = X * (1 - u) * (1 + (u + h)) * (1 - q) := by grind
      have e2 : X * (1 + D) * ((1 - (u + h)) * (1 + u)) = X * ((1 + D) * (1 - (u + h)) * (1 + u)) := by grind
      have e3 : Y * (1 + tw 553) * ((1 - (u + h)) * (1 + u)) = Y * (1 - (u + h)) * (1 + u) * (1 + tw 553) := by grind
      rw [e1] at k3
      rw [e2, e3] at k2
      exact Rat.le_trans k3 k2
    refine Rat.le_of_mul_le_mul_right (c := 1 + tw 553) ?_ hp
    refine Rat.le_trans ?_ k4
    have q1 : (1 - (tw 552 + q)) * (1 + tw 553) ≤ 1 - q := by
      have := Rat.mul_nonneg hq0 (Rat.le_of_lt t52)
      have := Rat.mul_nonneg (Rat.le_of_lt t52) (Rat.le_of_lt t52)
      rw [t552.1]
      grind
    have := Rat.mul_le_mul_of_nonneg_left q1 P2
    generalize X * (1 - u) * (1 + (u + h)) = Z at *
    grind
theorem FF_walk {u h ρ : Rat} (hu : 0 ≤ u) (hm : u ≤ 172 / 1000) (hh : 0 ≤ h) (hh1 : h ≤ tw 282) (hρ : tw 552 + 4 * (h * h) + 4 * (h * pn u 26) ≤ ρ) (hρ1 : 0 ≤ ρ) : ∀ j : Nat, (j : Rat) * h ≤ u → (j : Rat) * tw 549 ≤ 1 → (j : Rat) * ρ ≤ 1 →
    XX (2 * AT ((j : Rat) * h) 13) * (1 - (j : Rat) * h) ≤ (1 + (j : Rat) * h) * (1 + (j : Rat) * tw 549) ∧ (1 + (j : Rat) * h) * (1 - (j : Rat) * ρ) ≤ XX (2 * AT ((j : Rat) * h) 13) * (1 - (j : Rat) * h)
  | 0, _, _, _ => by
    have e : ((0 : Nat) : Rat) = 0 := rfl
    rw [e, Rat.zero_mul, Rat.zero_mul, Rat.zero_mul, show AT 0 13 = 0 by decide +kernel, Rat.mul_zero, XX_zero]
    constructor <;> grind
  | j + 1, k1, k2, k3 => by
    have ec := cast_succ j
    have hj := cast_nn j
    have t := tw_pos 549
    obtain ⟨x, hx⟩ : ∃ x, x = (j : Rat) * h := ⟨_, rfl⟩
    have e1 : ((j + 1 : Nat) : Rat) * h = x + h := by rw [ec, hx]; grind
    have e2 : ((j + 1 : Nat) : Rat) * tw 549 = (j : Rat) * tw 549 + tw 549 := by rw [ec]; grind
    have e3 : ((j + 1 : Nat) : Rat) * ρ = (j : Rat) * ρ + ρ := by rw [ec]; grind
    rw [e1] at k1
    rw [e2] at k2
    rw [e3] at k3
    rw [e1, e2, e3]
    have x0 : 0 ≤ x := by rw [hx]; exact Rat.mul_nonneg hj hh
    obtain ⟨a, b⟩ := FF_walk hu hm hh hh1 hρ hρ1 j (by rw [← hx]; grind) (by grind) (by grind)
    rw [← hx] at a b
    obtain ⟨c, d⟩ := FF_step x0 hh (by grind) hh1
    have hp := pn_mono x0 (show x ≤ u by grind) 26
    have hp2 := Rat.mul_le_mul_of_nonneg_left hp hh
    have pos1 : 0 < 1 + x := by grind
    have pos2 : 0 < 1 + (x + h) := by grind
    generalize hE : XX (2 * AT x 13) * (1 - x) = E at *
    generalize hF : XX (2 * AT (x + h) 13) * (1 - (x + h)) = F at *
    have t550 : tw 550 = 1 / 2 * tw 549 := by decide +kernel
    generalize (j : Rat) * tw 549 = J at *
    have J0 : 0 ≤ J ∨ J < 0 := by grind
    constructor
    · -- up
      have m1 := Rat.mul_le_mul_of_nonneg_right a (show 0 ≤ (1 + (x + h)) * (1 + tw 550) by have := tw_pos 550; exact Rat.mul_nonneg (Rat.le_of_lt pos2) (by grind))
      have m2 : F * (1 + x) ≤ (1 + (x + h)) * ((1 + J) * (1 + tw 550)) * (1 + x) := by
        have e4 : E * ((1 + (x + h)) * (1 + tw 550)) = E * (1 + (x + h)) * (1 + tw 550) := by grind
        have e5 : (1 + x) * (1 + J) * ((1 + (x + h)) * (1 + tw 550)) = (1 + (x + h)) * ((1 + J) * (1 + tw 550)) * (1 + x) := by grind
        rw [e4, e5] at m1
        exact Rat.le_trans c m1
      have m3 := Rat.le_of_mul_le_mul_right m2 pos1
      refine Rat.le_trans m3 (Rat.mul_le_mul_of_nonneg_left ?_ (Rat.le_of_lt pos2))
      rw [t550]
      have := Rat.mul_le_mul_of_nonneg_right (show J ≤ 1 by grind) (Rat.le_of_lt t)
      grind
    · -- down
      have r1 : 0 ≤ 1 - ρ := by
        have : 0 ≤ (j : Rat) * ρ := Rat.mul_nonneg hj hρ1
        grind
      have jr : 0 ≤ (j : Rat) * ρ := Rat.mul_nonneg hj hρ1
      generalize (j : Rat) * ρ = Q at *
      have m1 := Rat.mul_le_mul_of_nonneg_right b (show 0 ≤ (1 + (x + h)) * (1 - ρ) from Rat.mul_nonneg (Rat.le_of_lt pos2) r1)
      have hE0 : 0 ≤ E := by
        have : 0 ≤ (1 + x) * (1 - Q) := Rat.mul_nonneg (Rat.le_of_lt pos1) (by grind)
        grind
      have m0 : E * (1 + (x + h)) * (1 - ρ) ≤ F * (1 + x) := by
        refine Rat.le_trans (Rat.mul_le_mul_of_nonneg_left (show 1 - ρ ≤ 1 - (tw 552 + 4 * (h * h) + 4 * (h * pn x 26)) by grind) (Rat.mul_nonneg hE0 (Rat.le_of_lt pos2))) d
      have m2 : (1 + (x + h)) * ((1 - Q) * (1 - ρ)) * (1 + x) ≤ F * (1 + x) := by
        have e4 : E * ((1 + (x + h)) * (1 - ρ)) = E * (1 + (x + h)) * (1 - ρ) := by grind
        have e5 : (1 + x) * (1 - Q) * ((1 + (x + h)) * (1 - ρ)) = (1 + (x + h)) * ((1 - Q) * (1 - ρ)) * (1 + x) := by grind
        rw [e4, e5] at m1
        exact Rat.le_trans m1 m0
      have m3 := Rat.le_of_mul_le_mul_right m2 pos1
      refine Rat.le_trans (Rat.mul_le_mul_of_nonneg_left ?_ (Rat.le_of_lt pos2)) m3
      have := Rat.mul_nonneg jr hρ1
      grind
/-- the sum of the logarithm, without sign. -/
theorem FF_all {u : Rat} (hu : 0 ≤ u) (hm : u ≤ 172 / 1000) :
    XX (2 * AT u 13) * (1 - u) ≤ (1 + u) * (1 + tw 268) ∧ (1 + u) * (1 - (tw 268 + 4 * (u * pn u 26))) ≤ XX (2 * AT u 13) * (1 - u) := by
  obtain ⟨N, hN⟩ : ∃ N : Nat, N = 2 ^ 280 := ⟨_, rfl⟩
  have hNt : (N : Rat) * tw 280 = 1 := by rw [hN]; decide +kernel
  obtain ⟨h, hh⟩ : ∃ h, h = u * tw 280 := ⟨_, rfl⟩
  have t := tw_pos 280
  have h0 : 0 ≤ h := by rw [hh]; exact Rat.mul_nonneg hu (Rat.le_of_lt t)
  have h1 : h ≤ tw 282 := by
    have := Rat.mul_le_mul_of_nonneg_right (show u ≤ 1 / 4 by grind) (Rat.le_of_lt t)
    have e : tw 282 = 1 / 4 * tw 280 := by decide +kernel
    grind
  have hNh : (N : Rat) * h = u := by rw [hh]; grind
  have pu := pn_nn hu 26
  have p1 : pn u 26 ≤ 1 / 1000 := Rat.le_trans (pn_mono hu hm 26) (by decide +kernel)
  obtain ⟨ρ, hρ⟩ : ∃ ρ, ρ = tw 551 + 4 * (h * pn u 26) := ⟨_, rfl⟩
  have hp := Rat.mul_nonneg h0 pu
  have t551 : 0 ≤ tw 551 := Rat.le_of_lt (tw_pos _)
  have hh4 : 4 * (h * h) ≤ tw 552 := by
    have := mul_mono h0 h1 h0 h1
    have e : 4 * (tw 282 * tw 282) ≤ tw 552 := by decide +kernel
    grind
  have e551 : tw 551 = 2 * tw 552 := by decide +kernel
  have k1 : (N : Rat) * tw 549 ≤ tw 268 := by rw [hN]; decide +kernel
  have k1' : tw 268 ≤ 1 / 1000 := by decide +kernel
  have k2 : (N : Rat) * tw 551 ≤ tw 268 := by rw [hN]; decide +kernel
  have k3 : (N : Rat) * ρ ≤ tw 268 + 4 * (u * pn u 26) := by
    rw [hρ]
    have : (N : Rat) * (tw 551 + 4 * (h * pn u 26)) = (N : Rat) * tw 551 + 4 * ((N : Rat) * h * pn u 26) := by grind
    rw [this, hNh]
    grind
  have up := mul_mono hu hm pu p1
  obtain ⟨a, b⟩ := FF_walk hu hm h0 h1 (ρ := ρ) (by rw [hρ]; grind) (by rw [hρ]; grind) N (by rw [hNh]; exact Rat.le_refl) (by grind) (by grind)
  rw [hNh] at a b
  constructor
  · exact Rat.le_trans a (Rat.mul_le_mul_of_nonneg_left (by grind) (by grind))
  · exact Rat.le_trans (Rat.mul_le_mul_of_nonneg_left (by grind) (by grind)) b
end Go.Proofs.YtcfkhhnkboealaaDoor
