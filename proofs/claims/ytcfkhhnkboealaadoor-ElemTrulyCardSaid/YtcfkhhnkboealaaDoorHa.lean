/- Half sums of exponentials: how near the program's are to the true ones. No text of the program. -/
import Derived.Test.YtcfkhhnkboealaaDoorEch
namespace Go.Proofs.YtcfkhhnkboealaaDoor
open Go.RowKit
set_option linter.unusedVariables false
set_option linter.unusedSimpArgs false
set_option maxRecDepth 100000
set_option maxHeartbeats 4000000
open Turns Sizes
theorem half_end {A B M T S W X Y N e0 : Rat} (hA : 0 ≤ A) (hB : 0 ≤ B) (y1 : S ≤ 1003 / 2000 * A + 1003 / 2000 * B + e0) (ht : T ≤ 2 * M + e0 + (1002 / 1000 * A + 1002 / 1000 * B)) (k3 : M ≤ 1001 / 1000 * (1001 / 1000) * B) (hey : e0 ≤ 1 / 1000 * A) (x1 : X ≤ S + 1 / 2 * T) (x2 : Y ≤ X + N) (x4 : N ≤ 1 / 2 * W) :
    Y ≤ 1 / 2 * W + 101 / 100 * B + (101 / 100 * A + 101 / 100 * B) + 1 / 100 * A := by grind
/-- half of l and l / (1 + l), as the program takes it, beside half of y and y / (1 + y). -/
theorem half_sum {l y p q t s d e0 : Rat} (hy : 0 < y) (hd : ab (l - y) ≤ d) (hd1 : d ≤ 1 / 1000 * y) (hp : ab (p - (l + 1)) ≤ uu * ab (l + 1)) (hq : ab (q - l / p) ≤ uu * ab (l / p) + e0) (ht : ab (t - (l + q)) ≤ uu * ab (l + q)) (hs : ab (s - t * (1 / 2)) ≤ uu * ab (t * (1 / 2)) + e0) (he0 : 0 ≤ e0) (hey : e0 ≤ 1 / 1000 * (uu * y)) :
    ∃ D Z, D * ((1 + y) * (1 + l)) = 1 ∧ 0 < D ∧ Z * (1 + y) = y ∧ 0 < Z ∧ Z ≤ y ∧ Z ≤ 1 ∧ ab (s - (y + Z) * (1 / 2)) ≤ d * (1 + D) * (1 / 2) + uu * (101 / 100) * Z + uu * (101 / 100) * (y + Z) + 1 / 100 * (uu * y) := by
  have hu : 0 < uu ∧ uu ≤ 1 / 1000000 := by decide +kernel
  have hd' := ab_le.1 hd
  have hl : 0 < l := by grind
  have hly : l ≤ 1001 / 1000 * y := by grind
  have hA : 0 < 1 + y := by grind
  have hB : 0 < 1 + l := by grind
  have hAB := Rat.mul_pos hA hB
  obtain ⟨D, hD⟩ : ∃ D, D = 1 / ((1 + y) * (1 + l)) := ⟨_, rfl⟩
  have hD1 : D * ((1 + y) * (1 + l)) = 1 := by rw [hD]; exact div_self_mul _ (by grind)
  have hD0 : 0 < D := by
    rcases (show 0 < D ∨ D = 0 ∨ D < 0 by grind) with h | h | h
    · exact h
    · rw [h] at hD1; grind
    · have := Rat.mul_pos (show 0 < -D by grind) hAB
      grind
  obtain ⟨Z, hZ⟩ : ∃ Z, Z = y / (1 + y) := ⟨_, rfl⟩
  have hZ1 : Z * (1 + y) = y := by rw [hZ]; exact div_self_mul _ (by grind)
  have hZe : Z = y * (1 + l) * D := by
    have : (Z - y * (1 + l) * D) * (1 + y) = 0 := by grind
    grind
  have hZ0 : 0 < Z := by
    rw [hZe]; exact Rat.mul_pos (Rat.mul_pos hy hB) hD0
  have hZy : Z ≤ y := by
    have := Rat.mul_pos hZ0 hy
    grind
  have hZ2 : Z ≤ 1 := by
    rw [hZ, div_le hA]; grind
  refine ⟨D, Z, hD1, hD0, hZ1, hZ0, hZy, hZ2, ?_⟩
  obtain ⟨z, hz⟩ : ∃ z, z = l * (1 + y) * D := ⟨_, rfl⟩
  have hz1 : z * (1 + l) = l := by grind
  have hz0 : 0 < z := by rw [hz]; exact Rat.mul_pos (Rat.mul_pos hl hA) hD0
  have hzZ : z - Z = (l - y) * D := by grind
  have hzZ2 : ab (z - Z) ≤ d * D := by
    rw [hzZ, ab_mul, ab_pos (Rat.le_of_lt hD0)]
    exact Rat.mul_le_mul_of_nonneg_right hd (Rat.le_of_lt hD0)
  have hyD : y * D ≤ Z := by
    rw [hZe]
    have := Rat.mul_pos (Rat.mul_pos hy hl) hD0
    grind
  have hzz : z ≤ 1001 / 1000 * Z := by
    have k := Rat.mul_le_mul_of_nonneg_right hd1 (Rat.le_of_lt hD0)
    have := (ab_le.1 hzZ2).2
    grind
  -- the quotient
  rw [ab_pos (show 0 ≤ l + 1 by grind)] at hp
  have hp' := ab_le.1 hp
  have k1 := Rat.mul_le_mul_of_nonneg_right hu.2 (show 0 ≤ l + 1 by grind)
  have hp0 : 0 < p := by grind
  obtain ⟨m, hm⟩ : ∃ m, m = l / p := ⟨_, rfl⟩
  rw [← hm] at hq
  have hm1 : m * p = l := by rw [hm]; exact div_self_mul _ (by grind)
  have hm0 : 0 < m := by
    rcases (show 0 < m ∨ m = 0 ∨ m < 0 by grind) with h | h | h
    · exact h
    · rw [h] at hm1; grind
    · have := Rat.mul_pos (show 0 < -m by grind) hp0
      grind
  have hmz : ab (m - z) ≤ uu * m := by
    have e : (m - z) * (1 + l) = m * ((1 + l) - p) := by grind
    have e2 : ab (m - z) * (1 + l) = m * ab ((1 + l) - p) := by
      rw [← ab_pos (Rat.le_of_lt hB), ← ab_mul, e, ab_mul, ab_pos (Rat.le_of_lt hm0), ab_pos (Rat.le_of_lt hB)]
    rw [ab_comm, show l + 1 - p = (1 + l) - p by grind] at hp
    have k := Rat.mul_le_mul_of_nonneg_left hp (Rat.le_of_lt hm0)
    rw [← e2] at k
    exact Rat.le_of_mul_le_mul_right (c := 1 + l) (by grind) hB
  have hmz' := ab_le.1 hmz
  have k2 := Rat.mul_le_mul_of_nonneg_right hu.2 (Rat.le_of_lt hm0)
  have hm2 : m ≤ 1001 / 1000 * z := by grind
  rw [ab_pos (Rat.le_of_lt hm0)] at hq
  have hqz : ab (q - z) ≤ 2 * (uu * m) + e0 := by
    have := ab_tri q m z
    grind
  have k3 := Rat.mul_le_mul_of_nonneg_left (Rat.le_trans hm2 (Rat.mul_le_mul_of_nonneg_left hzz (by decide +kernel : (0 : Rat) ≤ 1001 / 1000))) (Rat.le_of_lt hu.1)
  have k4 := Rat.mul_le_mul_of_nonneg_left hZy (Rat.le_of_lt hu.1)
  have hqz' := ab_le.1 hqz
  have k5 := Rat.mul_le_mul_of_nonneg_right hu.2 (Rat.le_of_lt hZ0)
  have k6 := Rat.mul_le_mul_of_nonneg_right hu.2 (Rat.le_of_lt hy)
  have hq0 : 0 < q ∨ q ≤ 0 := by grind
  have hlq : ab (l + q) ≤ 1002 / 1000 * (y + Z) := by
    have := (ab_le.1 hzZ2).1
    rw [ab_le]
    constructor <;> grind
  have k7 := Rat.mul_le_mul_of_nonneg_left hlq (Rat.le_of_lt hu.1)
  have ht2 : ab (t - (l + z)) ≤ 2 * (uu * m) + e0 + uu * (1002 / 1000 * (y + Z)) := by
    have := ab_tri t (l + q) (l + z)
    rw [show l + q - (l + z) = q - z by grind] at this
    grind
  have hth : ab (t * (1 / 2)) ≤ 1003 / 1000 * (1 / 2) * (y + Z) := by
    have := ab_le.1 ht2
    rw [ab_le]
    constructor <;> grind
  have k8 := Rat.mul_le_mul_of_nonneg_left hth (Rat.le_of_lt hu.1)
  have x1 := ab_tri s (t * (1 / 2)) ((l + z) * (1 / 2))
  have x2 := ab_tri s ((l + z) * (1 / 2)) ((y + Z) * (1 / 2))
  have x3 : ab (t * (1 / 2) - (l + z) * (1 / 2)) = 1 / 2 * ab (t - (l + z)) := by
    rw [show t * (1 / 2) - (l + z) * (1 / 2) = 1 / 2 * (t - (l + z)) by grind, ab_mul]
    have : ab (1 / 2 : Rat) = 1 / 2 := by decide +kernel
    rw [this]
  have x4 : ab ((l + z) * (1 / 2) - (y + Z) * (1 / 2)) ≤ 1 / 2 * (d + d * D) := by
    rw [show (l + z) * (1 / 2) - (y + Z) * (1 / 2) = 1 / 2 * ((l - y) + (z - Z)) by grind, ab_mul]
    have : ab (1 / 2 : Rat) = 1 / 2 := by decide +kernel
    rw [this]
    have := ab_add (l - y) (z - Z)
    grind
  have y1 := Rat.le_trans hs (Rat.add_le_add_right.2 k8)
  rw [x3] at x1
  have e1 : uu * (1003 / 1000 * (1 / 2) * (y + Z)) = 1003 / 2000 * (uu * y) + 1003 / 2000 * (uu * Z) := by grind
  have e2 : uu * (1002 / 1000 * (y + Z)) = 1002 / 1000 * (uu * y) + 1002 / 1000 * (uu * Z) := by grind
  have e3 : uu * (1001 / 1000 * (1001 / 1000 * Z)) = 1001 / 1000 * (1001 / 1000) * (uu * Z) := by grind
  have e4 : d * (1 + D) * (1 / 2) = 1 / 2 * (d + d * D) := by grind
  have e5 : uu * (101 / 100) * Z = 101 / 100 * (uu * Z) := by grind
  have e6 : uu * (101 / 100) * (y + Z) = 101 / 100 * (uu * y) + 101 / 100 * (uu * Z) := by grind
  rw [e4, e5, e6]
  rw [e1] at y1
  rw [e2] at ht2
  rw [e3] at k3
  exact half_end (Rat.le_of_lt (Rat.mul_pos hu.1 hy)) (Rat.le_of_lt (Rat.mul_pos hu.1 hZ0)) y1 ht2 k3 hey x1 x2 x4
theorem half_D {y l D c : Rat} (h : D * ((1 + y) * (1 + l)) = 1) (hD : 0 < D) (hc : 0 < c) (k : c ≤ (1 + y) * (1 + l)) : D ≤ 1 / c := by
  rw [le_div hc]
  have := Rat.mul_le_mul_of_nonneg_left k (Rat.le_of_lt hD)
  grind
theorem half_prod {d D m k : Rat} (h : d ≤ m) (hd : 0 ≤ d) (hD : 0 < D) (hk : D ≤ k) : d * (1 + D) * (1 / 2) ≤ m * ((1 + k) / 2) := by
  have := mul_mono hd h (show 0 ≤ 1 + D by grind) (show 1 + D ≤ 1 + k by grind)
  grind
/-- the half sum's room, from 1/3 on. -/
theorem half_room {y l D Z d T s G : Rat} (hy : 38 / 100 ≤ y) (hl : 999 / 1000 * y ≤ l) (h1 : D * ((1 + y) * (1 + l)) = 1) (h2 : 0 < D) (h3 : Z * (1 + y) = y) (h4 : Z ≤ 1) (hd0 : 0 ≤ d)
    (hd : (y < 999 / 1000 → d ≤ uu * (793 / 100 + 101 / 100 * y)) ∧ (y < 2 → d ≤ uu * (1585 / 100 + 101 / 100 * y)) ∧ (2 ≤ y → d ≤ uu * (793 / 100 * (1 + y) + 101 / 100 * y)))
    (hT : T ≤ d * (1 + D) * (1 / 2) + uu * (101 / 100) * Z + uu * (101 / 100) * (y + Z) + 1 / 100 * (uu * y))
    (hs : ab (s - (y + Z) * (1 / 2)) ≤ T) (hG : uu * s ≤ G) (hG2 : 1 / 4 ≤ s → 1 / 2 * uu ≤ G) (hG3 : 1 / 2 ≤ s → uu ≤ G) : T ≤ 159 / 10 * G := by
  have hu : 0 < uu ∧ uu ≤ 1 / 1000000 := by decide +kernel
  have hs' := (ab_le.1 hs).1
  have hZ : ∀ c : Rat, 0 ≤ c → c ≤ y → c / (1 + c) ≤ Z := by
    intro c hc k
    rw [div_le (by grind)]
    have e : Z * (1 + c) * (1 + y) = y * (1 + c) := by grind
    have e2 : c * (1 + y) ≤ y * (1 + c) := by grind
    rw [← e] at e2
    exact Rat.le_of_mul_le_mul_right e2 (by grind)
  have hZu : ∀ c : Rat, y ≤ c → Z ≤ c / (1 + c) := by
    intro c k
    rw [le_div (by grind)]
    have e : Z * (1 + c) * (1 + y) = y * (1 + c) := by grind
    have e2 : y * (1 + c) ≤ c * (1 + y) := by grind
    rw [← e] at e2
    exact Rat.le_of_mul_le_mul_right e2 (by grind)
  have hDD : ∀ c : Rat, 0 ≤ c → c ≤ y → ∀ b : Rat, 0 < b → b ≤ (1 + c) * (1 + 999 / 1000 * c) → D ≤ 1 / b := by
    intro c hc k b hb hb2
    refine half_D h1 h2 hb (Rat.le_trans hb2 (mul_mono (by grind) (by grind) (by grind) (by grind)))
  rcases (show y < 5 / 10 ∨ (5 / 10 ≤ y ∧ y < 7 / 10) ∨ (7 / 10 ≤ y ∧ y < 999 / 1000) ∨ (999 / 1000 ≤ y ∧ y < 2) ∨ 2 ≤ y by grind) with c | ⟨c0, c⟩ | ⟨c0, c⟩ | ⟨c0, c⟩ | c
  · have q1 := hDD (38 / 100) (by grind) hy (1 / (526 / 1000)) (by decide +kernel) (by decide +kernel)
    rw [show (1 : Rat) / (1 / (526 / 1000)) = 526 / 1000 by decide +kernel] at q1
    have q2 := hZ (38 / 100) (by grind) hy
    rw [show (38 / 100 : Rat) / (1 + 38 / 100) = 38 / 138 by decide +kernel] at q2
    have q3 := hZu (5 / 10) (by grind)
    rw [show (5 / 10 : Rat) / (1 + 5 / 10) = 1 / 3 by decide +kernel] at q3
    have q4 : d ≤ uu * (844 / 100) := Rat.le_trans (hd.1 (by grind)) (Rat.mul_le_mul_of_nonneg_left (by grind) (Rat.le_of_lt hu.1))
    have q5 := half_prod q4 hd0 h2 q1
    have q6 : T ≤ uu * (77 / 10) := by
      have a := Rat.mul_le_mul_of_nonneg_left q3 (Rat.le_of_lt hu.1)
      have b := Rat.mul_le_mul_of_nonneg_left (Rat.le_of_lt c) (Rat.le_of_lt hu.1)
      generalize d * (1 + D) * (1 / 2) = X at *
      clear hZ hZu hDD hd h1 h3 hG hG2 hG3 hs hs'
      grind
    have := hG2 (by grind)
    grind
  · have q1 := hDD (5 / 10) (by grind) c0 (1 / (445 / 1000)) (by decide +kernel) (by decide +kernel)
    rw [show (1 : Rat) / (1 / (445 / 1000)) = 445 / 1000 by decide +kernel] at q1
    have q2 := hZ (5 / 10) (by grind) c0
    rw [show (5 / 10 : Rat) / (1 + 5 / 10) = 1 / 3 by decide +kernel] at q2
    have q3 := hZu (7 / 10) (by grind)
    rw [show (7 / 10 : Rat) / (1 + 7 / 10) = 7 / 17 by decide +kernel] at q3
    have q4 : d ≤ uu * (864 / 100) := Rat.le_trans (hd.1 (by grind)) (Rat.mul_le_mul_of_nonneg_left (by grind) (Rat.le_of_lt hu.1))
    have q5 := half_prod q4 hd0 h2 q1
    have q6 : T ≤ uu * (79 / 10) := by
      have a := Rat.mul_le_mul_of_nonneg_left q3 (Rat.le_of_lt hu.1)
      have b := Rat.mul_le_mul_of_nonneg_left (Rat.le_of_lt c) (Rat.le_of_lt hu.1)
      generalize d * (1 + D) * (1 / 2) = X at *
      clear hZ hZu hDD hd h1 h3 hG hG2 hG3 hs hs'
      grind
    have := hG2 (by grind)
    grind
  · have q1 := hDD (7 / 10) (by grind) c0 (1 / (347 / 1000)) (by decide +kernel) (by decide +kernel)
    rw [show (1 : Rat) / (1 / (347 / 1000)) = 347 / 1000 by decide +kernel] at q1
    have q2 := hZ (7 / 10) (by grind) c0
    rw [show (7 / 10 : Rat) / (1 + 7 / 10) = 7 / 17 by decide +kernel] at q2
    have q4 : d ≤ uu * (894 / 100) := Rat.le_trans (hd.1 (by grind)) (Rat.mul_le_mul_of_nonneg_left (by grind) (Rat.le_of_lt hu.1))
    have q5 := half_prod q4 hd0 h2 q1
    have q6 : T ≤ uu * 10 := by
      have a := Rat.mul_le_mul_of_nonneg_left h4 (Rat.le_of_lt hu.1)
      have b := Rat.mul_le_mul_of_nonneg_left (Rat.le_of_lt c) (Rat.le_of_lt hu.1)
      generalize d * (1 + D) * (1 / 2) = X at *
      clear hZ hZu hDD hd h1 h3 hG hG2 hG3 hs hs'
      grind
    have := hG3 (by grind)
    grind
  · have q1 := hDD (999 / 1000) (by grind) c0 (1 / (251 / 1000)) (by decide +kernel) (by decide +kernel)
    rw [show (1 : Rat) / (1 / (251 / 1000)) = 251 / 1000 by decide +kernel] at q1
    have q2 := hZ (999 / 1000) (by grind) c0
    rw [show (999 / 1000 : Rat) / (1 + 999 / 1000) = 999 / 1999 by decide +kernel] at q2
    have q3 := hZu 2 (by grind)
    rw [show (2 : Rat) / (1 + 2) = 2 / 3 by decide +kernel] at q3
    have q4 : d ≤ uu * (1787 / 100) := Rat.le_trans (hd.2.1 (by grind)) (Rat.mul_le_mul_of_nonneg_left (by grind) (Rat.le_of_lt hu.1))
    have q5 := half_prod q4 hd0 h2 q1
    have q6 : T ≤ uu * (148 / 10) := by
      have a := Rat.mul_le_mul_of_nonneg_left q3 (Rat.le_of_lt hu.1)
      have b := Rat.mul_le_mul_of_nonneg_left (Rat.le_of_lt c) (Rat.le_of_lt hu.1)
      generalize d * (1 + D) * (1 / 2) = X at *
      clear hZ hZu hDD hd h1 h3 hG hG2 hG3 hs hs'
      grind
    have := hG3 (by grind)
    grind
  · have q1 := hDD 2 (by grind) c (1 / (112 / 1000)) (by decide +kernel) (by decide +kernel)
    rw [show (1 : Rat) / (1 / (112 / 1000)) = 112 / 1000 by decide +kernel] at q1
    have q2 := hZ 2 (by grind) c
    rw [show (2 : Rat) / (1 + 2) = 2 / 3 by decide +kernel] at q2
    have q5 := half_prod (hd.2.2 c) hd0 h2 q1
    have a := Rat.mul_le_mul_of_nonneg_left h4 (Rat.le_of_lt hu.1)
    have a2 := Rat.mul_le_mul_of_nonneg_left q2 (Rat.le_of_lt hu.1)
    have b := Rat.mul_le_mul_of_nonneg_left c (Rat.le_of_lt hu.1)
    have q6 : T ≤ uu * (65 / 10) + 6 * (uu * y) := by
      generalize d * (1 + D) * (1 / 2) = X at *
      clear hZ hZu hDD hd h1 h3 hG hG2 hG3 hs hs'
      grind
    have q7 : T ≤ 1 / 1000 * y := by
      have := Rat.mul_le_mul_of_nonneg_right hu.2 (show 0 ≤ y by grind)
      grind
    have q8 : 4999 / 10000 * y + 1 / 3 - 1 / 1000 * y ≤ s := by grind
    have q9 := Rat.mul_le_mul_of_nonneg_left q8 (Rat.le_of_lt hu.1)
    clear hZ hZu hDD hd h1 h3 hG2 hG3 hs hs' hT q5
    grind
/-- the first third. -/
theorem half_first {a y D Z d T s G : Rat} (ha : 0 ≤ a) (hy : a ≤ 1001 / 1000 * y) (hy0 : 0 < y) (hD : 0 < D) (hD1 : D ≤ 1) (hZ : 0 < Z) (hd0 : 0 ≤ d) (hd : d ≤ 36 / 10 * (uu * a))
    (hT : T ≤ d * (1 + D) * (1 / 2) + uu * (101 / 100) * Z + uu * (101 / 100) * (y + Z) + 1 / 100 * (uu * y))
    (hs : ab (s - (y + Z) * (1 / 2)) ≤ T) (hG : uu * s ≤ G) : T ≤ 159 / 10 * G := by
  have hu : 0 < uu ∧ uu ≤ 1 / 1000000 := by decide +kernel
  have hs' := (ab_le.1 hs).1
  have q5 := half_prod hd hd0 hD hD1
  have a1 := Rat.mul_le_mul_of_nonneg_left hy (Rat.le_of_lt hu.1)
  have a2 := Rat.mul_pos hu.1 hy0
  have a3 := Rat.mul_pos hu.1 hZ
  have b1 := Rat.mul_le_mul_of_nonneg_right hu.2 (Rat.le_of_lt hy0)
  have b2 := Rat.mul_le_mul_of_nonneg_right hu.2 (Rat.le_of_lt hZ)
  have T1 : T ≤ 464 / 100 * (uu * y) + 203 / 100 * (uu * Z) := by grind
  have T2 : T ≤ 1 / 10000 * (y + Z) := by grind
  have S1 : 499 / 1000 * (y + Z) ≤ s := by grind
  have S2 := Rat.mul_le_mul_of_nonneg_left S1 (Rat.le_of_lt hu.1)
  clear hT hs hs' q5
  grind
theorem gap_up {r : Nat} (h : 4503599627370496 ≤ r) : gapq r ≤ 2 * uu * ((mval r : Rat) / (U : Rat)) := by
  have h1 : 4503599627370496 * 2 ^ (r / 4503599627370496 - 1) ≤ mval r := by
    unfold mval
    rw [if_neg (by omega)]
    exact Nat.mul_le_mul_right _ (by omega)
  have h2 := cast_le.2 h1
  rw [cast_mul] at h2
  have e9 : ((4503599627370496 : Nat) : Rat) = 4503599627370496 := by decide +kernel
  have hU := UQ_pos
  have h3 := div_self_mul (mval r : Rat) UQ_ne
  have eu : 2 * uu = 1 / 4503599627370496 := by decide +kernel
  rw [gap_eq, div_le hU, eu]
  generalize (mval r : Rat) / (U : Rat) = Y at *
  generalize ((2 ^ (r / 4503599627370496 - 1) : Nat) : Rat) = X at *
  grind
theorem below_word {e g : Nat} {c k : Rat} (hc : V e c) (h : c < k) (he : e < 9218868437227405312) (hg : (mval g : Rat) / (U : Rat) = k) : e < g := by
  have h1 := hc.size
  have hr := (word_facts he).2.2.1
  rw [hr] at h1
  have h2 := (ab_of c).2
  rcases Nat.lt_or_ge e g with q | q
  · exact q
  · exfalso
    have h3 := cast_le.2 (mval_le_iff.2 q)
    have e1 := hc.uniq (V.pos he)
    rw [← hg, e1] at h
    have hU := UQ_pos
    have h4 : (mval g : Rat) / (U : Rat) ≤ (mval e : Rat) / (U : Rat) := by
      rw [div_le hU, div_self_mul _ UQ_ne]; exact h3
    grind
theorem word_two : (mval 4611686018427387904 : Rat) / (U : Rat) = 2 := by
  have h := (vnum (w := 4611686018427387904) (k := 2) (by decide) (by decide +kernel)).uniq (V.pos (by decide))
  rw [← h]; decide +kernel
theorem word_four : (mval 4616189618054758400 : Rat) / (U : Rat) = 4 := by
  have h := V.four.uniq (V.pos (by decide))
  rw [← h]
theorem gap_two {e : Nat} {c : Rat} (hc : V e c) (h : c < 2) (he : e < 9218868437227405312) : gapq e ≤ 2 * uu := by
  have h1 := below_word hc h he word_two
  refine Rat.le_trans (gap_mono (show e ≤ 4611686018427387903 by omega)) ?_
  rw [gap_pw, e1_eq]
  decide +kernel
theorem gap_four {e : Nat} {c : Rat} (hc : V e c) (h : c < 4) (he : e < 9218868437227405312) : gapq e ≤ 4 * uu := by
  have h1 := below_word hc h he word_four
  refine Rat.le_trans (gap_mono (show e ≤ 4616189618054758399 by omega)) ?_
  rw [gap_pw, e1_eq]
  decide +kernel
theorem gap_normal {e : Nat} {c : Rat} (hc : V e c) (h : 1 / 2 ≤ c) (he : e < 9218868437227405312) : gapq e ≤ 2 * uu * c := by
  have e1 := hc.uniq (V.pos he)
  rw [e1] at h ⊢
  refine gap_up ?_
  rcases Nat.lt_or_ge e 4503599627370496 with q | q
  · exfalso
    have h3 := cast_le.2 (mval_le_iff.2 (Nat.le_of_lt q))
    have hU := UQ_pos
    rw [le_div hU] at h
    have h4 : mval 4503599627370496 * 4 ≤ U := by decide +kernel
    have h5 := cast_le.2 h4
    rw [cast_mul] at h5
    have e4 : ((4 : Nat) : Rat) = 4 := by decide +kernel
    grind
  · exact q
theorem half_word {t : Nat} (h1 : 9007199254740992 ≤ t) (h2 : t < 9218868437227405312) : fmul t 4602678819172646912 = t - 4503599627370496 ∧ (mval t : Rat) / (U : Rat) = 2 * ((mval (t - 4503599627370496) : Rat) / (U : Rat)) ∧ gapq t = 2 * gapq (t - 4503599627370496) := by
  obtain ⟨L, hL⟩ : ∃ L, t / 4503599627370496 = L + 2 := ⟨t / 4503599627370496 - 2, by omega⟩
  have hL2 : (t - 4503599627370496) / 4503599627370496 = L + 1 := by omega
  have hm : mval t = 2 * mval (t - 4503599627370496) := by
    unfold mval
    rw [if_neg (by omega), if_neg (by omega), hL, hL2, show (t - 4503599627370496) % 4503599627370496 = t % 4503599627370496 by omega, show L + 2 - 1 = (L + 1 - 1) + 1 by omega, Nat.pow_succ]
    generalize 2 ^ (L + 1 - 1) = X
    rw [← Nat.mul_assoc, Nat.mul_comm]
  refine ⟨?_, ?_, ?_⟩
  · obtain ⟨a1, a2, a3, _, _, _⟩ := word_facts h2
    obtain ⟨k, hk, e⟩ : ∃ k, k = 1073 ∧ mval (rung 4602678819172646912) = 2 ^ k := by refine ⟨1073, rfl, ?_⟩; decide +kernel
    rw [fmul_fin a1 (by decide +kernel), a3, hm, e, show 2 * mval (t - 4503599627370496) * 2 ^ k = mval (t - 4503599627370496) * 2 ^ (k + 1) by rw [Nat.pow_succ, Nat.mul_comm 2, Nat.mul_assoc, Nat.mul_comm 2]]
    rw [show (1074 : Nat) = k + 1 by omega, rndQ_cancel, rnd_mval (by omega), a2, show sgn 4602678819172646912 = false by decide +kernel]
    exact wd_false' _
  · rw [hm, cast_mul]
    have e2 : ((2 : Nat) : Rat) = 2 := by decide +kernel
    rw [e2]
    have h1 := div_self_mul (2 * (mval (t - 4503599627370496) : Rat)) UQ_ne
    have h3 := div_self_mul (mval (t - 4503599627370496) : Rat) UQ_ne
    have hU := UQ_ne
    generalize 2 * (mval (t - 4503599627370496) : Rat) / (U : Rat) = Y at *
    generalize (mval (t - 4503599627370496) : Rat) / (U : Rat) = X at *
    have : (Y - 2 * X) * (U : Rat) = 0 := by grind
    grind
  · rw [gap_pw, gap_pw, hL, hL2, show ((L + 2 - 1 : Nat) : Int) - (e1 : Int) = 1 + (((L + 1 - 1 : Nat) : Int) - (e1 : Int)) by omega, pw_add]
    have : pw 1 = 2 := by decide +kernel
    rw [this]
theorem max_one : rndN (mval 9218868437227405311 + 2 * U) = 9218868437227405311 := by decide +kernel
/-- a great float and something up to 2. -/
theorem add_top {e d : Nat} (h1 : 1077 ≤ e / 4503599627370496) (h2 : e < 9218868437227405312) (hd : d ≤ 4611686018427387904) : e ≤ fadd e d ∧ fadd e d < 9218868437227405312 ∧ ab ((mval (fadd e d) : Rat) / (U : Rat) - (mval e : Rat) / (U : Rat)) ≤ gapq e := by
  rw [add_words h2 (by omega)]
  have hm : mval d ≤ 2 * U := by have := mval_le_iff.2 hd; rwa [show mval 4611686018427387904 = 2 * U by decide +kernel] at this
  have r1 : e ≤ rndN (mval e + mval d) := le_rndN_of h2 (Nat.le_add_right _ _)
  have r2 : rndN (mval e + mval d) ≤ 9218868437227405311 := by
    rw [← max_one]
    exact rndN_mono (Nat.add_le_add (mval_le_iff.2 (by omega)) hm)
  refine ⟨r1, by omega, ?_⟩
  have st := mval_step e
  obtain ⟨L, hL⟩ : ∃ L, L = e / 4503599627370496 - 1 := ⟨_, rfl⟩
  rw [← hL] at st
  have hUL : 2 * U ≤ 2 ^ L := by rw [U_def, ← Nat.pow_succ']; exact Nat.pow_le_pow_right (by decide) (by rw [e1_eq]; omega)
  have r3 : mval (rndN (mval e + mval d)) ≤ mval e + 2 ^ L := by
    rcases Nat.lt_or_ge e 9218868437227405311 with q | q
    · rw [← st]
      refine mval_le_iff.2 (rndN_le_of (by omega) ?_)
      rw [st]
      exact Nat.add_le_add_left (Nat.le_trans hm hUL) _
    · have : rndN (mval e + mval d) = e := by omega
      rw [this]
      exact Nat.le_add_right _ _
  have r4 := mval_le_iff.2 r1
  have ge := gap_eq e
  rw [← hL] at ge
  have k3 := cast_le.2 r3
  have k4 := cast_le.2 r4
  have e3 : ((mval e + 2 ^ L : Nat) : Rat) = (mval e : Rat) + ((2 ^ L : Nat) : Rat) := by grind
  rw [e3] at k3
  rw [ge]
  generalize rndN (mval e + mval d) = t at *
  clear st hUL r3 r4 r1 r2 e3 hm
  have hU := UQ_pos
  have a1 := div_self_mul (mval t : Rat) UQ_ne
  have a2 := div_self_mul (mval e : Rat) UQ_ne
  have a3 := div_self_mul ((2 ^ L : Nat) : Rat) UQ_ne
  generalize ((2 ^ L : Nat) : Rat) = Z at *
  generalize (mval e : Rat) = E at *
  generalize (mval t : Rat) = F at *
  have q1 : E / (U : Rat) ≤ F / (U : Rat) := by rw [div_le hU, a1]; exact k4
  have q2 : F / (U : Rat) ≤ E / (U : Rat) + Z / (U : Rat) := by
    rw [div_le hU]
    grind
  rw [ab_le]
  constructor <;> grind
end Go.Proofs.YtcfkhhnkboealaaDoor
