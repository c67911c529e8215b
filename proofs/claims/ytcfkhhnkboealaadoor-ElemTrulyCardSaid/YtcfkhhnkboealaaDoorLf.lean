/- Between: raised from both ends, a logarithm that is near answers true. Condition: the table of the places of bits stands. -/
import Derived.Test.YtcfkhhnkboealaaDoorLe
namespace Go.Proofs.YtcfkhhnkboealaaDoor
open Go.RowKit
set_option linter.unusedVariables false
set_option linter.unusedSimpArgs false
set_option maxRecDepth 100000
set_option maxHeartbeats 4000000
open Turns Sizes
/-- one end: below. -/
theorem end_low {v μ lo κ η : Rat} (hμ : Rl (XX μ) v η) (h0 : 0 ≤ η) (h1 : η ≤ 1 / 1000) (hk : κ = μ - lo) (hκ : 2 * η ≤ κ) (hκ2 : κ ≤ 1) (hl : ab lo ≤ 1024) : XX lo ≤ v * (1 + tw 550) := by
  have hadd := XX_add (a := lo) (b := κ) hl (by rw [ab_pos (by grind)]; grind)
  rw [show lo + κ = μ by grind] at hadd
  obtain ⟨a1, a2⟩ := hadd
  obtain ⟨b1, b2⟩ := hμ
  have g := XX_ge (a := κ) (by grind)
  have x0 := XX_pos hl
  have t := tw_pos 553
  have t2 : tw 553 ≤ 1 / 1000000 ∧ tw 550 = 8 * tw 553 := by decide +kernel
  have a1' := (ab_le.1 a1).2
  have b1' := (ab_le.1 b1).2
  have k1 := Rat.mul_le_mul_of_nonneg_left (show 1 + 2 * η ≤ XX κ by grind) (Rat.le_of_lt x0)
  generalize XX lo * XX κ = P at *
  generalize XX μ = M at *
  generalize XX lo = L at *
  generalize XX κ = Q at *
  rw [t2.2]
  generalize tw 553 = τ at *
  have k2 : L * (1 + 2 * η) ≤ M * (1 + τ) := by grind
  have k3 : M * (1 + τ) ≤ v * (1 + η) * (1 + τ) := Rat.mul_le_mul_of_nonneg_right (by grind) (by grind)
  have hp : 0 < 1 + 2 * η := by grind
  refine Rat.le_of_mul_le_mul_right (c := 1 + 2 * η) ?_ hp
  refine Rat.le_trans k2 (Rat.le_trans k3 ?_)
  have q : (1 + η) * (1 + τ) ≤ (1 + 8 * τ) * (1 + 2 * η) := by
    have := Rat.mul_nonneg h0 (Rat.le_of_lt t)
    grind
  have := Rat.mul_le_mul_of_nonneg_left q (Rat.le_of_lt b2)
  grind
theorem end_high {v μ hi κ η : Rat} (hμ : Rl (XX μ) v η) (h0 : 0 ≤ η) (h1 : η ≤ 1 / 1000) (hk : κ = hi - μ) (hκ : 2 * η ≤ κ) (hκ2 : κ ≤ 1) (hl : ab μ ≤ 1024) (hh : ab hi ≤ 1024) : v * (1 - tw 550) ≤ XX hi := by
  have hadd := XX_add (a := μ) (b := κ) hl (by rw [ab_pos (by grind)]; grind)
  rw [show μ + κ = hi by grind] at hadd
  obtain ⟨a1, a2⟩ := hadd
  obtain ⟨b1, b2⟩ := hμ
  have g := XX_ge (a := κ) (by grind)
  have x0 := XX_pos hl
  have t := tw_pos 553
  have t2 : tw 553 ≤ 1 / 1000000 ∧ tw 550 = 8 * tw 553 := by decide +kernel
  have a1' := (ab_le.1 a1).2
  have b1' := (ab_le.1 b1).1
  have k1 := Rat.mul_le_mul_of_nonneg_left (show 1 + 2 * η ≤ XX κ by grind) (Rat.le_of_lt x0)
  generalize XX μ * XX κ = P at *
  generalize XX μ = M at *
  generalize XX hi = H at *
  generalize XX κ = Q at *
  rw [t2.2]
  generalize tw 553 = τ at *
  have k2 : M * (1 + 2 * η) ≤ H * (1 + τ) := by grind
  have k3 : v * (1 - η) * (1 + 2 * η) ≤ M * (1 + 2 * η) := Rat.mul_le_mul_of_nonneg_right (by grind) (by grind)
  have k4 : v * 1 ≤ v * ((1 - η) * (1 + 2 * η)) := by
    refine Rat.mul_le_mul_of_nonneg_left ?_ (Rat.le_of_lt b2)
    have := Rat.mul_le_mul_of_nonneg_right h1 h0
    grind
  have hp : 0 < 1 + τ := by grind
  refine Rat.le_of_mul_le_mul_right (c := 1 + τ) ?_ hp
  have q : (1 - 8 * τ) * (1 + τ) ≤ 1 := by
    have := Rat.mul_nonneg (Rat.le_of_lt t) (Rat.le_of_lt t)
    grind
  have := Rat.mul_le_mul_of_nonneg_left q (Rat.le_of_lt b2)
  grind
/-- the room and both ends. -/
theorem room_ends {l μ η u y G R lo hi : Rat} (hl : ab l ≤ 900) (hlG : ab l ≤ 9007199254740992 * G) (hG : 0 < G) (hG2 : G ≤ 1 / 1000000) (hu1 : 1 ≤ u) (hu2 : u ≤ 16) (hy1 : (1 - uu) * G ≤ y) (hy2 : y ≤ 21 / 10 * G) (hR : ab (R - y * u) ≤ u4 * ab (y * u)) (hlo : ab (lo - (l - R)) ≤ u4 * ab (l - R)) (hhi : ab (hi - (l + R)) ≤ u4 * ab (l + R))
    (h0 : 0 ≤ η) (h : ab (l - μ) + 2 * η ≤ (u - 1 / 100) * G) : 2 * η ≤ μ - lo ∧ μ - lo ≤ 1 ∧ 2 * η ≤ hi - μ ∧ hi - μ ≤ 1 ∧ ab lo ≤ 1024 ∧ ab hi ≤ 1024 := by
  have huu : 0 < uu ∧ uu ≤ 1 / 1000000 := by decide +kernel
  have t : 0 < u4 ∧ u4 ≤ 1 / 9007199254740992000000 := ⟨u4_pos, by decide +kernel⟩
  have uG := Rat.mul_le_mul_of_nonneg_right huu.2 (Rat.le_of_lt hG)
  have y0 : 0 ≤ y := by grind
  have yu1 := Rat.mul_le_mul_of_nonneg_right hy1 (show 0 ≤ u by grind)
  have yu2 := mul_mono y0 hy2 (show 0 ≤ u by grind) hu2
  have yu0 := Rat.mul_nonneg y0 (show 0 ≤ u by grind)
  rw [ab_pos yu0] at hR
  have k1 := Rat.mul_le_mul_of_nonneg_right t.2 yu0
  have hR' := ab_le.1 hR
  have R2 : R ≤ 34 * G := by grind
  have uGu : uu * G * u ≤ 1 / 1000000 * G * 16 := mul_mono (Rat.mul_nonneg (Rat.le_of_lt huu.1) (Rat.le_of_lt hG)) uG (by grind) hu2
  have R1 : u * G - 2 / 1000 * G ≤ R := by
    have : (1 - uu) * G * u = u * G - uu * G * u := by grind
    rw [this] at yu1
    grind
  have R0 : 0 ≤ R := by
    have := Rat.mul_le_mul_of_nonneg_right hu1 (Rat.le_of_lt hG)
    grind
  have m1 : ab (l - R) ≤ 9007199254740992 * G + 34 * G := by
    have := ab_sub l R
    rw [ab_pos R0] at this
    grind
  have m2 : ab (l + R) ≤ 9007199254740992 * G + 34 * G := by
    have := ab_add l R
    rw [ab_pos R0] at this
    grind
  have e1 := mul_mono (Rat.le_of_lt t.1) t.2 (ab_nn (l - R)) m1
  have e2 := mul_mono (Rat.le_of_lt t.1) t.2 (ab_nn (l + R)) m2
  have lo1 : ab (lo - (l - R)) ≤ 2 / 1000 * G := by grind
  have hi1 : ab (hi - (l + R)) ≤ 2 / 1000 * G := by grind
  have lo' := ab_le.1 lo1
  have hi' := ab_le.1 hi1
  have d := ab_of (l - μ)
  have dn := ab_nn (l - μ)
  have uG2 := Rat.mul_le_mul_of_nonneg_right hu2 (Rat.le_of_lt hG)
  have eu : (u - 1 / 100) * G = u * G - 1 / 100 * G := by grind
  rw [eu] at h
  have l' := ab_le.1 hl
  clear hlo hhi e1 e2 m1 m2 hR hR' k1 yu0 yu1 yu2 uGu lo1 hi1
  generalize u * G = W at *
  generalize ab (l - μ) = E at *
  refine ⟨by grind, by grind, by grind, by grind, ?_, ?_⟩ <;> (rw [ab_le]; constructor <;> grind)
/-- the comparisons. -/
theorem between_end {v p1 p2 t le mo X1 X2 : Rat} (hv : 0 < v) (h1 : Rl p1 X1 (tw 300)) (h2 : Rl p2 X2 (tw 300)) (k1 : X1 ≤ v * (1 + tw 550)) (k2 : v * (1 - tw 550) ≤ X2) (ht : ab (t - v * pw (-250)) ≤ u4 * ab (v * pw (-250)))
    (hle : ab (le - (p1 - t)) ≤ u4 * ab (p1 - t)) (hmo : ab (mo - (p2 + t)) ≤ u4 * ab (p2 + t)) (h2u : p2 ≤ 2 * v ∨ 2 * v < p2) : le ≤ v ∧ v ≤ mo := by
  have hp : pw (-250) = tw 250 := by decide +kernel
  have t0 : 0 < tw 250 ∧ tw 250 ≤ 1 / 1000 ∧ tw 300 ≤ 1 / 1000 * tw 250 ∧ tw 550 ≤ 1 / 1000 * tw 250 ∧ u4 ≤ 1 / 1000 * tw 250 ∧ u4 ≤ 1 / 1000 := by decide +kernel
  have tu := u4_pos
  have t3 := tw_pos 300
  have t5 := tw_pos 550
  rw [hp] at ht
  have vt := Rat.mul_pos hv t0.1
  rw [ab_pos (Rat.le_of_lt vt)] at ht
  have a1 := Rat.mul_le_mul_of_nonneg_right t0.2.2.2.2.2 (Rat.le_of_lt vt)
  have ht' := ab_le.1 ht
  obtain ⟨c1, c2⟩ := h1
  obtain ⟨d1, d2⟩ := h2
  have c1' := ab_le.1 c1
  have d1' := ab_le.1 d1
  have e1 := Rat.mul_le_mul_of_nonneg_right t0.2.2.1 (Rat.le_of_lt c2)
  have e2 := Rat.mul_le_mul_of_nonneg_right t0.2.2.1 (Rat.le_of_lt d2)
  have b1 := Rat.mul_le_mul_of_nonneg_left t0.2.2.2.1 (Rat.le_of_lt hv)
  have b2 := Rat.mul_le_mul_of_nonneg_right t0.2.1 (Rat.le_of_lt hv)
  have X1b : X1 ≤ v + 1 / 1000 * (v * tw 250) := by grind
  have X1c : X1 * tw 250 ≤ 2 * (v * tw 250) := by
    have := Rat.mul_le_mul_of_nonneg_right (show X1 ≤ 2 * v by grind) (Rat.le_of_lt t0.1)
    grind
  have P1 : p1 ≤ v + 3 / 1000 * (v * tw 250) := by grind
  have t1 : 9 / 10 * (v * tw 250) ≤ t ∧ t ≤ 11 / 10 * (v * tw 250) := by constructor <;> grind
  constructor
  · have pt : ab (p1 - t) ≤ 2 * v ∨ 2 * v < ab (p1 - t) := by grind
    have p1n : -(1 / 2 * v) ≤ p1 := by
      have := Rat.mul_le_mul_of_nonneg_right (show tw 300 ≤ 1 / 4 by grind) (Rat.le_of_lt c2)
      grind
    have pt2 : ab (p1 - t) ≤ 2 * v := by
      rw [ab_le]
      constructor <;> grind
    have f1 := mul_mono (Rat.le_of_lt tu) t0.2.2.2.2.1 (ab_nn (p1 - t)) pt2
    have := (ab_le.1 hle).2
    grind
  · have p2l : v - 4 / 1000 * (v * tw 250) ≤ p2 := by
      have g1 : v - 1 / 1000 * (v * tw 250) ≤ X2 := by grind
      have g2 := Rat.mul_le_mul_of_nonneg_left g1 (show 0 ≤ 1 - 1 / 1000 * tw 250 by grind)
      have g3 := Rat.mul_nonneg (Rat.le_of_lt vt) (Rat.le_of_lt t0.1)
      grind
    have p2t : 0 ≤ p2 + t := by grind
    rw [ab_pos p2t] at hmo
    have f2 := Rat.mul_le_mul_of_nonneg_right t0.2.2.2.2.1 p2t
    have h3 := (ab_le.1 hmo).1
    -- mo >= (p2 + t) (1 - tau/1000)
    have f3 := Rat.mul_le_mul_of_nonneg_left (show v + 8 / 10 * (v * tw 250) ≤ p2 + t by grind) (show 0 ≤ 1 - 1 / 1000 * tw 250 by grind)
    have f4 := Rat.mul_le_mul_of_nonneg_right t0.2.1 (Rat.le_of_lt vt)
    grind
end Go.Proofs.YtcfkhhnkboealaaDoor
