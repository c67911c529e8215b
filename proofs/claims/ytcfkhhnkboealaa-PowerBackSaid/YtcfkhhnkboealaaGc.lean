/- Places turned back beside the line: rules. No text of the program. -/
import Derived.Test.YtcfkhhnkboealaaCk
namespace Go.Proofs.Ytcfkhhnkboealaa
open Go.RowKit
set_option linter.unusedVariables false
set_option linter.unusedSimpArgs false
set_option maxRecDepth 100000
set_option maxHeartbeats 4000000
open Turns Sizes
open Cs (cnr)
/-- the place x + i y, turned back by b, lies to the right, beside the line. -/
def Ln (x y b e : Rat) : Prop := 0 < (CS b).re * x + (CS b).im * y ∧ ab ((CS b).im * x - (CS b).re * y) ≤ e * ((CS b).re * x + (CS b).im * y)
theorem Ln.mono {x y b e f : Rat} (h : Ln x y b e) (k : e ≤ f) : Ln x y b f := ⟨h.1, Rat.le_trans h.2 (Rat.mul_le_mul_of_nonneg_right k (Rat.le_of_lt h.1))⟩
theorem sqr_le' {x y : Rat} (hy : 0 ≤ y) (h : x * x ≤ y * y) : x ≤ y := by
  rcases (show x ≤ y ∨ y < x by grind) with q | q
  · exact q
  · exfalso
    have a := Rat.mul_le_mul_of_nonneg_left (Rat.le_of_lt q) hy
    have b : 0 < (x - y) * (x - y) := Rat.mul_pos (by grind) (by grind)
    have c := Rat.mul_pos (show 0 < x - y by grind) (show 0 < x - y by grind)
    have d := mul_nn (show 0 ≤ x - y by grind) hy
    grind
theorem grow_core {C S x y : Rat} (hl : ab (C * C + S * S - 1) ≤ 1 / 1000) (hR : 0 < C * x + S * y) (hI : ab (S * x - C * y) ≤ 1 / 100 * (C * x + S * y)) : 69 / 100 * (ab x + ab y) ≤ C * x + S * y := by
  have hl' := ab_le.1 hl
  have xx : x * x = ab x * ab x := by
    rcases (show 0 ≤ x ∨ x < 0 by grind) with q | q
    · rw [ab_pos q]
    · have : ab x = -x := by unfold ab; grind
      rw [this]; grind
  have yy : y * y = ab y * ab y := by
    rcases (show 0 ≤ y ∨ y < 0 by grind) with q | q
    · rw [ab_pos q]
    · have : ab y = -y := by unfold ab; grind
      rw [this]; grind
  have xn := ab_nn x
  have yn := ab_nn y
  have II : (S * x - C * y) * (S * x - C * y) ≤ 1 / 10000 * ((C * x + S * y) * (C * x + S * y)) := by
    have e : (S * x - C * y) * (S * x - C * y) = ab (S * x - C * y) * ab (S * x - C * y) := by
      rcases (show 0 ≤ S * x - C * y ∨ S * x - C * y < 0 by grind) with q | q
      · rw [ab_pos q]
      · have : ab (S * x - C * y) = -(S * x - C * y) := by unfold ab; grind
        rw [this]; grind
    have m := mul_mono (ab_nn _) hI (ab_nn _) hI
    rw [e]
    grind
  have id : (C * x + S * y) * (C * x + S * y) + (S * x - C * y) * (S * x - C * y) = (C * C + S * S) * (ab x * ab x + ab y * ab y) := by
    rw [← xx, ← yy]; grind
  generalize C * x + S * y = R at *
  generalize S * x - C * y = I at *
  generalize C * C + S * S = N at *
  generalize ab x = X at *
  generalize ab y = Y at *
  clear xx yy hl hI
  have XX := mul_nn xn xn
  have YY := mul_nn yn yn
  have low := Rat.mul_le_mul_of_nonneg_right (show 999 / 1000 ≤ N by grind) (show 0 ≤ X * X + Y * Y by grind)
  have d2 : 0 ≤ (X - Y) * (X - Y) := by
    rcases (show 0 ≤ X - Y ∨ X - Y ≤ 0 by grind) with q | q
    · exact mul_nn q q
    · have := mul_nn (show 0 ≤ -(X - Y) by grind) (show 0 ≤ -(X - Y) by grind)
      grind
  have s0 : 0 ≤ X * X + Y * Y := by grind
  refine sqr_le' (Rat.le_of_lt hR) ?_
  have e1 : 69 / 100 * (X + Y) * (69 / 100 * (X + Y)) = 4761 / 10000 * (2 * (X * X + Y * Y) - (X - Y) * (X - Y)) := by grind
  rw [e1]
  clear e1
  generalize (X - Y) * (X - Y) = z1 at *
  generalize N * (X * X + Y * Y) = z2 at *
  generalize X * X + Y * Y = z3 at *
  generalize R * R = z4 at *
  generalize I * I = z5 at *
  grind
theorem CS_unit {b : Rat} (hb : ab b ≤ 8) : ab ((CS b).re * (CS b).re + (CS b).im * (CS b).im - 1) ≤ 1 / 1000 := Rat.le_trans (CS_len hb).1 (by decide +kernel)
theorem Ln.grow {x y b e : Rat} (h : Ln x y b e) (hb : ab b ≤ 8) (he : e ≤ 1 / 100) : 69 / 100 * (ab x + ab y) ≤ (CS b).re * x + (CS b).im * y := by
  refine grow_core (CS_unit hb) h.1 (Rat.le_trans h.2 (Rat.mul_le_mul_of_nonneg_right he (Rat.le_of_lt h.1)))
/-- where the turn is another one, of nearly the same parts. -/
theorem ln_core {C S C' S' x y e d : Rat} (hR : 68 / 100 * (ab x + ab y) ≤ C * x + S * y) (h0 : 0 < C * x + S * y) (hI : ab (S * x - C * y) ≤ e * (C * x + S * y)) (he : 0 ≤ e) (he1 : e ≤ 1 / 100) (h1 : ab (C' - C) ≤ d) (h2 : ab (S' - S) ≤ d) (hd : d ≤ 1 / 100) : 0 < C' * x + S' * y ∧ ab (S' * x - C' * y) ≤ (e + 3 * d) * (C' * x + S' * y) := by
  have d0 : 0 ≤ d := Rat.le_trans (ab_nn _) h1
  have p : ∀ {A B z : Rat}, ab (A - B) ≤ d → ab (A * z - B * z) ≤ d * ab z := by
    intro A B z h
    rw [show A * z - B * z = (A - B) * z by grind, ab_mul]
    exact Rat.mul_le_mul_of_nonneg_right h (ab_nn z)
  have a1 := p (z := x) h1
  have a2 := p (z := y) h2
  have a3 := p (z := x) h2
  have a4 := p (z := y) h1
  have dx : d * (ab x + ab y) = d * ab x + d * ab y := by grind
  have R1 : ab (C' * x + S' * y - (C * x + S * y)) ≤ d * (ab x + ab y) := by
    have := ab_add (C' * x - C * x) (S' * y - S * y)
    rw [show C' * x - C * x + (S' * y - S * y) = C' * x + S' * y - (C * x + S * y) by grind] at this
    rw [dx]; grind
  have I1 : ab (S' * x - C' * y - (S * x - C * y)) ≤ d * (ab x + ab y) := by
    have := ab_sub (S' * x - S * x) (C' * y - C * y)
    rw [show S' * x - S * x - (C' * y - C * y) = S' * x - C' * y - (S * x - C * y) by grind] at this
    rw [dx]; grind
  have xn := ab_nn x
  have yn := ab_nn y
  clear a1 a2 a3 a4 dx h1 h2 p
  generalize C' * x + S' * y = R' at *
  generalize S' * x - C' * y = I' at *
  generalize C * x + S * y = R at *
  generalize S * x - C * y = I at *
  have Ln0 : 0 ≤ ab x + ab y := by grind
  generalize ab x + ab y = L at *
  have dL := mul_nn d0 Ln0
  have dL1 := Rat.mul_le_mul_of_nonneg_right hd Ln0
  have R1' := ab_le.1 R1
  have Rp : 0 < R' := by
    rcases (show L = 0 ∨ 0 < L by grind) with q | q
    · rw [q] at R1'; grind
    · grind
  refine ⟨Rp, ?_⟩
  have x1 := ab_add (I' - I) I
  rw [show I' - I + I = I' by grind] at x1
  have k1 := Rat.mul_le_mul_of_nonneg_left (show R ≤ R' + d * L by grind) he
  have k2 := Rat.mul_le_mul_of_nonneg_right he1 dL
  have k3 := Rat.mul_le_mul_of_nonneg_left (show 67 / 100 * L ≤ R' by grind) d0
  have e1 : (e + 3 * d) * R' = e * R' + 3 * (d * R') := by grind
  have e2 : e * (R' + d * L) = e * R' + e * (d * L) := by grind
  have e3 : d * (67 / 100 * L) = 67 / 100 * (d * L) := by grind
  rw [e1]
  rw [e2] at k1
  rw [e3] at k3
  clear e1 e2 e3 dL1 R1 R1' hR
  generalize e * (d * L) = z1 at *
  generalize d * L = z2 at *
  generalize d * R' = z3 at *
  generalize e * R' = z4 at *
  generalize e * R = z5 at *
  grind
/-- swapped. -/
theorem Ln.swap {x y b e : Rat} (h : Ln x y b e) (hb : ab b ≤ 6) (he : 0 ≤ e) (he1 : e ≤ 1 / 100) : Ln y x (hp - b) (e + 3 * tw 102) := by
  have g := h.grow (Rat.le_trans hb (by decide +kernel)) he1
  obtain ⟨m1, m2⟩ := CS_more' (y := -b) (by rw [ab_neg]; exact hb)
  rw [show -b + hp = hp - b by grind, CS_neg] at m1 m2
  have n1 : ab ((CS (hp - b)).re - (CS b).im) ≤ tw 102 := by
    have e : -(Cq.conj (CS b)).im = (CS b).im := by show - -(CS b).im = _; grind
    rw [e] at m1; exact m1
  have n2 : ab ((CS (hp - b)).im - (CS b).re) ≤ tw 102 := m2
  obtain ⟨h0, hI⟩ := h
  rw [show (CS b).re * x + (CS b).im * y = (CS b).im * y + (CS b).re * x by grind] at g h0 hI
  have hI' : ab ((CS b).re * y - (CS b).im * x) ≤ e * ((CS b).im * y + (CS b).re * x) := by rw [ab_comm]; exact hI
  have g' : 69 / 100 * (ab y + ab x) ≤ (CS b).im * y + (CS b).re * x := by rw [show ab y + ab x = ab x + ab y by grind]; exact g
  exact ln_core (by have := ab_nn x; have := ab_nn y; grind) h0 hI' he he1 n1 n2 (by decide +kernel)
/-- on the other side. -/
theorem Ln.left {x y b e : Rat} (h : Ln x y b e) (hb : ab b ≤ 4) (he : 0 ≤ e) (he1 : e ≤ 1 / 1000) : Ln (-x) y (2 * hp - b) (e + 3 * tw 102 + 3 * tw 102) := by
  have s := h.swap (Rat.le_trans hb (by decide +kernel)) he (by grind)
  have hs := hp_size
  have w : 3 * tw 102 ≤ 1 / 1000 ∧ 0 ≤ tw 102 := by decide +kernel
  have c : ∀ {X Y B E : Rat}, Ln X Y B E → Ln X (-Y) (-B) E := by
    intro X Y B E k
    unfold Ln at *
    rw [CS_neg]
    have e1 : (Cq.conj (CS B)).re = (CS B).re := rfl
    have e2 : (Cq.conj (CS B)).im = -(CS B).im := rfl
    rw [e1, e2, show (CS B).re * X + -(CS B).im * -Y = (CS B).re * X + (CS B).im * Y by grind, show -(CS B).im * X - (CS B).re * -Y = -((CS B).im * X - (CS B).re * Y) by grind, ab_neg]
    exact k
  -- (y, x) by hp - b; its mirror (y, -x) by b - hp; swapped: (-x, y) by 2 hp - b
  have k := (c s).swap (by
    have bb := ab_le.1 hb
    generalize hp = H at *
    rw [ab_le]; constructor <;> grind) (by grind) (by grind)
  rw [show hp - -(hp - b) = 2 * hp - b by grind] at k
  exact k
theorem Ln.turned {x y b e : Rat} (k : Ln x y b e) : Ln x (-y) (-b) e := by
  unfold Ln at *
  rw [CS_neg]
  have e1 : (Cq.conj (CS b)).re = (CS b).re := rfl
  have e2 : (Cq.conj (CS b)).im = -(CS b).im := rfl
  rw [e1, e2, show (CS b).re * x + -(CS b).im * -y = (CS b).re * x + (CS b).im * y by grind, show -(CS b).im * x - (CS b).re * -y = -((CS b).im * x - (CS b).re * y) by grind, ab_neg]
  exact k
/-- another angle, near to it. -/
theorem CS_first {b d : Rat} (hb : ab b ≤ 6) (hd : ab d ≤ 1 / 1000000) : ab ((CS (b + d)).re - ((CS b).re - (CS b).im * d)) ≤ tw 440 + 21 / 10 * (d * d) ∧ ab ((CS (b + d)).im - ((CS b).im + (CS b).re * d)) ≤ tw 440 + 21 / 10 * (d * d) := by
  have a := CS_add (x := b) (y := d) (by grind) (by grind)
  have s := CS_small (d := d) (by grind)
  have l := (CS_len (y := b) (by grind)).2
  have m := Cs.mul (CS b) (CS d - (1 + ig d))
  have m2 := mul_mono (Cs.nn (CS b)) l (Cs.nn _) s
  have t := Cs.add (-(CS b * CS d - CS (b + d))) (CS b * (CS d - (1 + ig d)))
  rw [cq_turn, Cs.neg] at t
  have tot : cnr (CS (b + d) - CS b * (1 + ig d)) ≤ tw 440 + 21 / 10 * (d * d) := by grind
  have tot' : ab ((CS (b + d)).re - ((CS b).re * (1 + 0) - (CS b).im * (0 + d))) + ab ((CS (b + d)).im - ((CS b).re * (0 + d) + (CS b).im * (1 + 0))) ≤ tw 440 + 21 / 10 * (d * d) := tot
  rw [show (CS b).re * (1 + 0) - (CS b).im * (0 + d) = (CS b).re - (CS b).im * d by grind, show (CS b).re * (0 + d) + (CS b).im * (1 + 0) = (CS b).im + (CS b).re * d by grind] at tot'
  have n1 := ab_nn ((CS (b + d)).re - ((CS b).re - (CS b).im * d))
  have n2 := ab_nn ((CS (b + d)).im - ((CS b).im + (CS b).re * d))
  constructor <;> grind
theorem Ln.shift {x y b e d f : Rat} (h : Ln x y b e) (hb : ab b ≤ 6) (he : 0 ≤ e) (he1 : e ≤ 1 / 1000000) (hd : ab d ≤ f) (hf : f ≤ 1 / 1000000000) : Ln x y (b + d) (e + 1001 / 1000 * f + tw 400) := by
  have g := h.grow (Rat.le_trans hb (by decide +kernel)) (Rat.le_trans he1 (by decide +kernel))
  obtain ⟨h0, hI⟩ := h
  have hd1 : ab d ≤ 1 / 1000000000 := Rat.le_trans hd hf
  obtain ⟨m1, m2⟩ := CS_first hb (Rat.le_trans hd1 (by decide +kernel))
  have n1 := ab_nn d
  have f0 : 0 ≤ f := Rat.le_trans n1 hd
  -- the middle turn
  have dd : d * d ≤ 1 / 1000000000 * f := by
    have e1 : d * d = ab d * ab d := by
      rcases (show 0 ≤ d ∨ d < 0 by grind) with q | q
      · rw [ab_pos q]
      · have : ab d = -d := by unfold ab; grind
        rw [this]; grind
    rw [e1]
    have := mul_mono n1 hd1 n1 hd
    exact this
  have w : 3 * tw 440 ≤ tw 410 ∧ tw 410 ≤ 1 / 1000000 ∧ tw 410 + tw 410 ≤ tw 400 := by decide +kernel
  have wp := tw_pos 440
  generalize (CS b).re = C at *
  generalize (CS b).im = S at *
  have R1 : (C - S * d) * x + (S + C * d) * y = C * x + S * y - d * (S * x - C * y) := by grind
  have I1 : (S + C * d) * x - (C - S * d) * y = S * x - C * y + d * (C * x + S * y) := by grind
  have dI : ab (d * (S * x - C * y)) ≤ 1 / 1000000000 * (1 / 1000000 * (C * x + S * y)) := by
    rw [ab_mul]
    exact mul_mono n1 hd1 (ab_nn _) (Rat.le_trans hI (Rat.mul_le_mul_of_nonneg_right he1 (Rat.le_of_lt h0)))
  have dR : ab (d * (C * x + S * y)) ≤ f * (C * x + S * y) := by
    rw [ab_mul, ab_pos (Rat.le_of_lt h0)]
    exact Rat.mul_le_mul_of_nonneg_right hd (Rat.le_of_lt h0)
  have mid0 : 0 < (C - S * d) * x + (S + C * d) * y := by
    rw [R1]
    have := (ab_le.1 dI).2
    generalize d * (S * x - C * y) = z at *
    generalize C * x + S * y = R at *
    grind
  have midI : ab ((S + C * d) * x - (C - S * d) * y) ≤ (e + 10005 / 10000 * f + tw 410) * ((C - S * d) * x + (S + C * d) * y) := by
    rw [I1, R1]
    have a := ab_add (S * x - C * y) (d * (C * x + S * y))
    have t := ab_mul d (S * x - C * y)
    have t2 : ab (d * (S * x - C * y)) ≤ 1 / 1000000 * (f * (C * x + S * y)) := by
      rw [t]
      have := mul_mono n1 hd (ab_nn _) (Rat.le_trans hI (Rat.mul_le_mul_of_nonneg_right he1 (Rat.le_of_lt h0)))
      grind
    have t3 := (ab_le.1 t2).2
    generalize d * (S * x - C * y) = z at *
    generalize d * (C * x + S * y) = z2 at *
    generalize S * x - C * y = I at *
    generalize C * x + S * y = R at *
    have fR := mul_nn f0 (Rat.le_of_lt h0)
    have eF := Rat.mul_le_mul_of_nonneg_left (show z ≤ 1 / 1000000 * (f * R) by grind) he
    have eF2 := Rat.mul_le_mul_of_nonneg_right he1 fR
    have eF3 := Rat.mul_le_mul_of_nonneg_left hf fR
    have fz := Rat.mul_le_mul_of_nonneg_left (show z ≤ 1 / 1000000 * (f * R) by grind) f0
    have tz : 0 ≤ tw 410 * (R - z) := mul_nn (Rat.le_of_lt (tw_pos 410)) (by grind)
    have e1 : (e + 10005 / 10000 * f + tw 410) * (R - z) = e * R - e * z + 10005 / 10000 * (f * R) - 10005 / 10000 * (f * z) + tw 410 * (R - z) := by grind
    rw [e1]
    have e2 : e * (1 / 1000000 * (f * R)) = 1 / 1000000 * (e * (f * R)) := by grind
    have e3 : f * (1 / 1000000 * (f * R)) = 1 / 1000000 * (f * R * f) := by grind
    rw [e2] at eF
    rw [e3] at fz
    clear e1 e2 e3 R1 I1 dI m1 m2 dd
    generalize tw 410 * (R - z) = y1 at *
    generalize e * (f * R) = y2 at *
    generalize f * R * f = y3 at *
    generalize f * R = y4 at *
    generalize e * z = y5 at *
    generalize f * z = y6 at *
    generalize e * R = y7 at *
    grind
  have gmid : 68 / 100 * (ab x + ab y) ≤ (C - S * d) * x + (S + C * d) * y := by
    rw [R1]
    have := (ab_le.1 dI).2
    generalize d * (S * x - C * y) = z at *
    generalize C * x + S * y = R at *
    grind
  have dd2 : tw 440 + 21 / 10 * (d * d) ≤ tw 440 + 1 / 100000000 * f := by grind
  have k := ln_core gmid mid0 midI (by have := tw_pos 410; grind) (by grind) (Rat.le_trans m1 dd2) (Rat.le_trans m2 dd2) (by grind)
  exact ⟨k.1, Rat.le_trans k.2 (Rat.mul_le_mul_of_nonneg_right (by grind) (Rat.le_of_lt k.1))⟩
end Go.Proofs.Ytcfkhhnkboealaa
