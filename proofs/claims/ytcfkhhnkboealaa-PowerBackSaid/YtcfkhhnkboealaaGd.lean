/- The program's angles of places: beside the line. No text of the program. -/
import Derived.Test.YtcfkhhnkboealaaGc
namespace Go.Proofs.Ytcfkhhnkboealaa
open Go.RowKit
set_option linter.unusedVariables false
set_option linter.unusedSimpArgs false
set_option maxRecDepth 100000
set_option maxHeartbeats 4000000
open Turns Sizes
theorem Ln.scale {x y b e q : Rat} (h : Ln x y b e) (hq : 0 < q) : Ln (q * x) (q * y) b e := by
  unfold Ln at *
  have e1 : (CS b).re * (q * x) + (CS b).im * (q * y) = q * ((CS b).re * x + (CS b).im * y) := by grind
  have e2 : (CS b).im * (q * x) - (CS b).re * (q * y) = q * ((CS b).im * x - (CS b).re * y) := by grind
  rw [e1, e2, ab_mul, ab_pos (Rat.le_of_lt hq)]
  refine ⟨Rat.mul_pos hq h.1, ?_⟩
  have := Rat.mul_le_mul_of_nonneg_left h.2 (Rat.le_of_lt hq)
  grind
theorem unit_parts {b : Rat} (hb : ab b ≤ 8) : ab (CS b).re ≤ 1001 / 1000 ∧ ab (CS b).im ≤ 1001 / 1000 := by
  have h := ab_le.1 (CS_unit hb)
  have nn : ∀ z : Rat, 0 ≤ z * z ∧ ab z * ab z = z * z := by
    intro z
    rcases (show 0 ≤ z ∨ z < 0 by grind) with q | q
    · rw [ab_pos q]; exact ⟨mul_nn q q, rfl⟩
    · have e : ab z = -z := by unfold ab; grind
      have := mul_nn (show 0 ≤ -z by grind) (show 0 ≤ -z by grind)
      rw [e]; constructor <;> grind
  obtain ⟨a1, a2⟩ := nn (CS b).re
  obtain ⟨b1, b2⟩ := nn (CS b).im
  constructor
  · refine sqr_le' (by decide +kernel) ?_
    rw [a2]; grind
  · refine sqr_le' (by decide +kernel) ?_
    rw [b2]; grind
/-- another place, near to it. -/
theorem Ln.other {x y z b e k : Rat} (h : Ln x y b e) (hb : ab b ≤ 6) (he : 0 ≤ e) (he1 : e ≤ 1 / 1000000) (hz : ab (z - y) ≤ k * (ab x + ab y)) (hk0 : 0 ≤ k) (hk : k ≤ 1 / 1000000) : Ln x z b (e + 146 / 100 * k) := by
  have g := h.grow (Rat.le_trans hb (by decide +kernel)) (Rat.le_trans he1 (by decide +kernel))
  obtain ⟨h0, hI⟩ := h
  obtain ⟨u1, u2⟩ := unit_parts (b := b) (Rat.le_trans hb (by decide +kernel))
  unfold Ln
  generalize (CS b).re = C at *
  generalize (CS b).im = S at *
  have zn := ab_nn (z - y)
  have s1 : ab (S * (z - y)) ≤ 1001 / 1000 * (k * (ab x + ab y)) := by
    rw [ab_mul]
    exact mul_mono (ab_nn _) u2 zn hz
  have c1 : ab (C * (z - y)) ≤ 1001 / 1000 * (k * (ab x + ab y)) := by
    rw [ab_mul]
    exact mul_mono (ab_nn _) u1 zn hz
  have kL := Rat.mul_le_mul_of_nonneg_left g hk0
  have e1 : C * x + S * z = C * x + S * y + S * (z - y) := by grind
  have e2 : S * x - C * z = S * x - C * y - C * (z - y) := by grind
  rw [e1, e2]
  have a := ab_sub (S * x - C * y) (C * (z - y))
  have s2 := ab_le.1 s1
  generalize S * (z - y) = t1 at *
  generalize C * (z - y) = t2 at *
  generalize S * x - C * y = I at *
  generalize C * x + S * y = R at *
  have e3 : k * (69 / 100 * (ab x + ab y)) = 69 / 100 * (k * (ab x + ab y)) := by grind
  rw [e3] at kL
  generalize k * (ab x + ab y) = m at *
  have kR := mul_nn hk0 (Rat.le_of_lt h0)
  have kR1 := Rat.mul_le_mul_of_nonneg_right hk (Rat.le_of_lt h0)
  have ek := Rat.mul_le_mul_of_nonneg_left (show -(1452 / 1000 * (k * R)) ≤ t1 by grind) he
  have kk := Rat.mul_le_mul_of_nonneg_left (show -(1452 / 1000 * (k * R)) ≤ t1 by grind) hk0
  have ekR := Rat.mul_le_mul_of_nonneg_right he1 kR
  have kkR := Rat.mul_le_mul_of_nonneg_right hk kR
  have f1 : (e + 146 / 100 * k) * (R + t1) = e * R + e * t1 + 146 / 100 * (k * R) + 146 / 100 * (k * t1) := by grind
  have f2 : e * -(1452 / 1000 * (k * R)) = -(1452 / 1000 * (e * (k * R))) := by grind
  have f3 : k * -(1452 / 1000 * (k * R)) = -(1452 / 1000 * (k * (k * R))) := by grind
  rw [f2] at ek
  rw [f3] at kk
  rw [f1]
  clear f1 f2 f3 e1 e2 e3 g hz u1 u2
  constructor
  · grind
  · generalize e * (k * R) = y1 at *
    generalize k * (k * R) = y2 at *
    generalize k * R = y3 at *
    generalize e * t1 = y4 at *
    generalize k * t1 = y5 at *
    generalize e * R = y6 at *
    grind
theorem ln_of_line {t b e : Rat} (h1 : 9 / 10 ≤ ((⟨1, t⟩ : Cq) * CS (-b)).re) (h2 : ab ((⟨1, t⟩ : Cq) * CS (-b)).im ≤ 9 / 10 * e) : Ln 1 t b e := by
  rw [CS_neg] at h1 h2
  have a : ((⟨1, t⟩ : Cq) * Cq.conj (CS b)).re = 1 * (CS b).re - t * -(CS b).im := rfl
  have c : ((⟨1, t⟩ : Cq) * Cq.conj (CS b)).im = 1 * -(CS b).im + t * (CS b).re := rfl
  rw [a] at h1
  rw [c] at h2
  unfold Ln
  have e1 : (CS b).re * 1 + (CS b).im * t = 1 * (CS b).re - t * -(CS b).im := by grind
  have e2 : (CS b).im * 1 - (CS b).re * t = -(1 * -(CS b).im + t * (CS b).re) := by grind
  rw [e1, e2, ab_neg]
  have n := ab_nn (1 * -(CS b).im + t * (CS b).re)
  generalize 1 * (CS b).re - t * -(CS b).im = R at *
  refine ⟨by grind, Rat.le_trans h2 ?_⟩
  have e0 : 0 ≤ e := by grind
  have := Rat.mul_le_mul_of_nonneg_left h1 e0
  grind
theorem BT_range {u : Rat} (h0 : 0 ≤ u) (h1 : u ≤ 4144 / 10000) : 94 / 100 * u ≤ BT u 25 ∧ BT u 25 ≤ u := by
  have uu' := mul_mono h0 h1 h0 h1
  have z0 := mul_nn h0 h0
  obtain ⟨a0, a1⟩ := ak_size (z := u * u) z0 (by grind) 24 (by omega)
  have e : ak (u * u) 25 = 1 / ((2 * (24 - 24) + 1 : Nat) : Rat) - u * u * ak (u * u) 24 := rfl
  have n1 : ((2 * (24 - 24) + 1 : Nat) : Rat) = 1 := rfl
  have n3 : ((2 * (25 - 24) + 1 : Nat) : Rat) = 3 := rfl
  rw [n1] at e
  rw [n3] at a1
  have m := mul_mono z0 (show u * u ≤ 173 / 1000 by grind) a0 (show ak (u * u) 24 ≤ 1 / 3 by grind)
  have m0 := mul_nn z0 a0
  have l : 94 / 100 ≤ ak (u * u) 25 ∧ ak (u * u) 25 ≤ 1 := by rw [e]; constructor <;> grind
  rw [BT_ak]
  have x1 := Rat.mul_le_mul_of_nonneg_left l.1 h0
  have x2 := Rat.mul_le_mul_of_nonneg_left l.2 h0
  constructor <;> grind
theorem core_ln {f : Nat} {t : Rat} (hf : V f t) (hl : f < 9218868437227405312) (h1 : t ≤ 1) : ∃ b, V (coreF f) b ∧ Ln 1 t b (45 / 10 * uu) ∧ -(2 * et) ≤ b ∧ b ≤ 79 / 100 := by
  have huu : 0 < uu ∧ uu ≤ 1 / 1000000000 := by decide +kernel
  have het := et_uu
  have het0 := et_pos
  have hB := BG_big
  have t59 : tw 59 ≤ 1 / 10 * uu ∧ tw 58 ≤ 1 / 10 * uu := by decide +kernel
  obtain ⟨t0, ev, _⟩ := posV hf hl
  have hv := vfrac (w := 4601130706800738304) (N := 53) (D := 128) (by decide) (by decide) (by decide +kernel)
  have e53 : ((53 : Nat) : Rat) / ((128 : Nat) : Rat) = 53 / 128 := by decide +kernel
  rw [e53] at hv
  have ec := (posV hv (by decide)).2.1
  have hfar : farF f = decide (4601130706800738304 < f) := flt_words (by decide) hl
  unfold coreF coreV coreU
  rw [hfar]
  by_cases hc : 4601130706800738304 < f
  · rw [decide_eq_true hc, if_pos rfl, if_pos rfl]
    have tl : 53 / 128 ≤ t := by
      rw [ec, ev, div_le UQ_pos, div_self_mul _ UQ_ne]
      exact cast_le.2 (mval_le_iff.2 (Nat.le_of_lt hc))
    obtain ⟨x, hx, r1⟩ := hf.sub V.unit1 (by rw [ab_le]; clear ev ec; generalize BG = B at *; constructor <;> grind)
    obtain ⟨d, hd, r2⟩ := hf.add V.unit1 (by rw [ab_pos (show 0 ≤ t + 1 by grind)]; grind)
    obtain ⟨u, hu⟩ : ∃ u, u = (1 - t) / (1 + t) := ⟨_, rfl⟩
    have hut : u * (1 + t) = 1 - t := by rw [hu]; exact div_self_mul _ (by grind)
    have u0 : 0 ≤ u := by rw [hu, le_div (by grind)]; grind
    have u1 : u ≤ 41437 / 100000 := by rw [hu, div_le (by grind)]; grind
    have htu : t * (1 + u) = 1 - u := by grind
    have xb : ab x ≤ 1 := by
      have a := ab_add (x - (t - 1)) (t - 1)
      rw [show x - (t - 1) + (t - 1) = x by grind] at a
      have b : ab (t - 1) ≤ 6 / 10 := by rw [ab_le]; constructor <;> grind
      have k := Rat.mul_le_mul_of_nonneg_left b (Rat.le_of_lt huu.1)
      grind
    have db : 1 ≤ d := by
      have r2' := r2
      rw [ab_pos (show 0 ≤ t + 1 by grind)] at r2'
      have k := Rat.mul_le_mul_of_nonneg_left (show t + 1 ≤ 2 by grind) (Rat.le_of_lt huu.1)
      have := (ab_le.1 r2').1
      grind
    have xd : 2 * ab (x / d) ≤ BG := by
      rw [ab_div, ab_pos (show 0 ≤ d by grind)]
      have : ab x / d ≤ 1 := by rw [div_le (by grind)]; grind
      grind
    obtain ⟨q, hq, r3⟩ := hx.div hd (by grind) xd
    have qu := quot_abs (X := t - 1) (D := t + 1) (u := -u) (by grind) (by grind) (by grind) r1 r2 r3 (by rw [ab_neg, ab_pos u0]; grind)
    have qb : ab q ≤ 4144 / 10000 := by
      have a := ab_add (q - -u) (-u)
      rw [show q - -u + -u = q by grind, ab_neg, ab_pos u0] at a
      grind
    obtain ⟨v, hvv, r4⟩ := core_val hq qb
    have kq := Rat.mul_le_mul_of_nonneg_left qb (Rat.le_of_lt huu.1)
    have lip : ab (BT q 25 - BT (-u) 25) ≤ 14 / 10 * uu := by
      rcases (show q ≤ 0 ∨ 0 < q by grind) with c | c
      · have l := BT_lip (x := u) (y := -q) u0 (by grind) (by grind) (by have := ab_of q; grind) (by rw [show -q - u = -(q - -u) by grind, ab_neg]; grind)
        rw [show -q - u = -(q - -u) by grind, ab_neg] at l
        have e : BT q 25 = -BT (-q) 25 := by rw [BT_neg]; grind
        rw [e, BT_neg u, show -BT (-q) 25 - -BT u 25 = -(BT (-q) 25 - BT u 25) by grind, ab_neg]
        grind
      · have qs := ab_le.1 qu
        have l1 := BT_lip (x := 0) (y := q) Rat.le_refl (Rat.le_of_lt c) (by decide +kernel) (by have := ab_of q; grind) (by rw [show q - 0 = q by grind, ab_pos (Rat.le_of_lt c)]; grind)
        have l2 := BT_lip (x := 0) (y := u) Rat.le_refl u0 (by decide +kernel) (by grind) (by rw [show u - 0 = u by grind, ab_pos u0]; grind)
        rw [BT_zero, show q - 0 = q by grind, ab_pos (Rat.le_of_lt c), show BT q 25 - 0 = BT q 25 by grind] at l1
        rw [BT_zero, show u - 0 = u by grind, ab_pos u0, show BT u 25 - 0 = BT u 25 by grind] at l2
        have a := ab_sub (BT q 25) (BT (-u) 25)
        rw [BT_neg, ab_neg] at a
        rw [BT_neg]
        grind
    have vb : ab (v + BT u 25) ≤ 311 / 100 * uu := by
      have a := ab_add (v - BT q 25) (BT q 25 - BT (-u) 25)
      rw [show v - BT q 25 + (BT q 25 - BT (-u) 25) = v - BT (-u) 25 by grind, BT_neg, show v - -BT u 25 = v + BT u 25 by grind] at a
      rw [BT_neg] at lip
      clear hut htu hu ev ec r1 r2 r3 qu
      grind
    obtain ⟨Bu0, Bu1⟩ := BT_range u0 (show u ≤ 4144 / 10000 by grind)
    obtain ⟨hq1, hq2, hq3, c1, c2, c3, c4⟩ := quarters
    rw [hq2, hq3]
    obtain ⟨Z, hZ⟩ : ∃ Z, Z = BT u 25 := ⟨_, rfl⟩
    rw [← hZ] at vb Bu0 Bu1
    have vb' := ab_le.1 vb
    have v1 : ab (v + L4) ≤ 43 / 100 := by
      clear hut htu hu ev ec r1 r2 r3 qu lip r4
      rw [ab_le]; constructor <;> grind
    obtain ⟨m, hm, r5⟩ := hvv.add V.L4 (by grind)
    have k5 := Rat.mul_le_mul_of_nonneg_left v1 (Rat.le_of_lt huu.1)
    have r5' := ab_le.1 r5
    have c5 : H4 + L4 = hp * (1 / 2) := hq1
    have h4 : H4 ≤ 786 / 1000 ∧ 785 / 1000 ≤ H4 := by decide +kernel
    have m1 : ab (H4 + m) ≤ 79 / 100 := by
      clear hut htu hu ev ec r1 r2 r3 qu lip r4 c5 hq1
      rw [ab_le]; constructor <;> grind
    obtain ⟨b, hb, r6⟩ := V.H4.add hm (by grind)
    have k6 := Rat.mul_le_mul_of_nonneg_left m1 (Rat.le_of_lt huu.1)
    have r6' := ab_le.1 r6
    have tot : ab (b - (hp * (1 / 2) - Z)) ≤ 44 / 10 * uu := by
      have a1 := ab_add (b - (H4 + m)) (m - (v + L4))
      have a2 := ab_add (b - (H4 + m) + (m - (v + L4))) (v + Z)
      rw [show b - (H4 + m) + (m - (v + L4)) + (v + Z) = b - (H4 + L4 - Z) by grind, c5] at a2
      clear hut htu hu ev ec r1 r2 r3 qu hq1 c5 r5' r6' vb' lip r4
      grind
    have bl : -(2 * et) ≤ b ∧ b ≤ 79 / 100 := by
      clear hut htu hu ev ec r1 r2 r3 qu lip r4 c5 hq1 tot
      constructor <;> grind
    have L0 : Ln 1 t (hp * (1 / 2) - Z) (tw 57) := by
      have l := line_far (b := hp * (1 / 2) - Z) (δ := 0) u0 (by grind) htu (by rw [hZ, show hp * (1 / 2) - BT u 25 - (hp * (1 / 2) - BT u 25) = 0 by grind]; decide +kernel) (by decide +kernel)
      exact ln_of_line l.1 (Rat.le_trans l.2 (by decide +kernel))
    refine ⟨b, hb, ?_, bl.1, bl.2⟩
    have hs := hp_size
    have sh := L0.shift (d := b - (hp * (1 / 2) - Z)) (f := 44 / 10 * uu) (by
      clear hut htu hu ev ec r1 r2 r3 qu lip r4 c5 hq1 tot
      generalize hp = H at *
      rw [ab_le]; constructor <;> grind) (by decide +kernel) (by decide +kernel) tot (by decide +kernel)
    rw [show hp * (1 / 2) - Z + (b - (hp * (1 / 2) - Z)) = b by grind] at sh
    exact sh.mono (by decide +kernel)
  · rw [decide_eq_false hc, if_neg (by decide), if_neg (by decide)]
    have tl : t ≤ 53 / 128 := by
      rw [ec, ev, div_le UQ_pos, div_self_mul _ UQ_ne]
      exact cast_le.2 (mval_le_iff.2 (by omega))
    obtain ⟨v, hvv, r4⟩ := core_val hf (by rw [ab_pos t0]; grind)
    rw [ab_pos t0] at r4
    have k := Rat.mul_le_mul_of_nonneg_left tl (Rat.le_of_lt huu.1)
    have k0 := Rat.mul_le_mul_of_nonneg_right huu.2 t0
    have r5 : ab (v - BT t 25) ≤ 172 / 100 * uu := by grind
    obtain ⟨B0, B1⟩ := BT_range t0 (show t ≤ 4144 / 10000 by grind)
    have r4' := ab_le.1 r4
    refine ⟨v, hvv, ?_, ?_, ?_⟩
    · have L0 : Ln 1 t (BT t 25) (tw 57) := by
        have l := line_near (v := BT t 25) (δ := 0) t0 (by grind) (by rw [show BT t 25 - BT t 25 = 0 by grind]; decide +kernel) (by decide +kernel)
        exact ln_of_line (by grind) (Rat.le_trans l.2 (by decide +kernel))
      have sh := L0.shift (d := v - BT t 25) (f := 172 / 100 * uu) (by rw [ab_le]; constructor <;> grind) (by decide +kernel) (by decide +kernel) r5 (by decide +kernel)
      rw [show BT t 25 + (v - BT t 25) = v by grind] at sh
      exact sh.mono (by decide +kernel)
    · clear hv ec ev
      grind
    · clear hv ec ev
      grind
end Go.Proofs.Ytcfkhhnkboealaa
