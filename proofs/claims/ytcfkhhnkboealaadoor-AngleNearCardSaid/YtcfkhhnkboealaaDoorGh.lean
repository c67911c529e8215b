/- The tangent of the program's angle lies near to the float. No text of the program. -/
import Derived.Test.YtcfkhhnkboealaaDoorGg
namespace Go.Proofs.YtcfkhhnkboealaaDoor
open Go.RowKit
set_option linter.unusedVariables false
set_option linter.unusedSimpArgs false
set_option maxRecDepth 100000
set_option maxHeartbeats 4000000
open Turns Sizes
open Cs (cnr)
theorem read_unit : Ieee.double.read 4607182418800017408 = .number false 4503599627370496 (-1074 + ((1022 : Nat) : Int)) := by decide +kernel
theorem fdiv_unit {f : Nat} (hl : f < 18446744073709551616) (hf : Proofs.YtcfkhhnkboealaaDoor.fin f = true) : fdiv f 4607182418800017408 = f := by
  obtain ⟨m1, k1, hr1, hm1, hb1, hk1⟩ := read_number (fin_rung hf)
  have hl1 : m1.log2 ≤ 52 := by
    by_cases h : m1 = 0
    · subst h; decide
    · have := (Nat.log2_lt h (k := 53)).2 (by omega); omega
  obtain ⟨s, hs⟩ : ∃ s, 54 + (4503599627370496 : Nat).log2 - m1.log2 = s + 52 := ⟨54 - m1.log2, by rw [show (4503599627370496 : Nat).log2 = 52 by decide]; omega⟩
  rw [div_def, hr1, read_unit]
  have hfb : Ieee.double.fractionBits + 2 = 54 := rfl
  rw [hfb]
  simp only [Ieee.Datum.quotient]
  rw [if_neg (by decide)]
  simp only [Option.map_some, canon]
  rw [hs, Nat.shiftLeft_eq]
  have hd : m1 * 2 ^ (s + 52) = m1 * 2 ^ s * 4503599627370496 := by rw [Nat.pow_add, Nat.mul_assoc]
  rw [hd, Nat.mul_div_cancel _ (by decide), Nat.mul_mod_left]
  show Ieee.double.nearest _ _ _ = _
  rw [nearest_any _ _ (e1 + k1) (1022 + (s + 52) + 1) _ (by rw [e1_eq]; omega), word_eq]
  have e : (2 * (m1 * 2 ^ s) + (0 != 0).toNat) * 2 ^ (e1 + k1) = m1 * 2 ^ k1 * 2 ^ (1022 + (s + 52) + 1) := by
    have h0 : (0 != 0).toNat = 0 := by decide
    rw [h0, Nat.add_zero, e1_eq]
    obtain ⟨q, hq⟩ : ∃ q, q = 1074 := ⟨_, rfl⟩
    rw [← hq, show 1022 + (s + 52) + 1 = s + q + 1 by omega, Nat.pow_add 2 q k1, Nat.pow_add 2 (s + q) 1, Nat.pow_add 2 s q]
    generalize 2 ^ q = X
    generalize 2 ^ s = Y
    generalize 2 ^ k1 = Z
    rw [Nat.pow_one]
    simp [Nat.mul_comm, Nat.mul_left_comm, Nat.mul_assoc]
  rw [e, rndQ_cancel, ← hm1, rnd_mval (fin_rung hf)]
  have : (sgn f ^^ false) = sgn f := Bool.xor_false _
  rw [this]
  exact (num_wd hl).symm
theorem core_fine {f : Nat} {u : Rat} (hf : V f u) (hu : ab u ≤ 4144 / 10000) : ∃ v, V (fmul f (coreSeq (fmul f f) 25)) v ∧ ab (v - BT u 25) ≤ 41 / 10 * (uu * ab u) + et := by
  have hB := BG_big
  have huu : 0 < uu ∧ uu ≤ 1 / 1000000 := by decide +kernel
  have het := et_uu
  have he0 := et_pos
  have un := ab_nn u
  have e0 : u * u = ab u * ab u := by
    rcases (show 0 ≤ u ∨ u < 0 by grind) with q | q
    · rw [ab_pos q]
    · have : ab u = -u := by unfold ab; grind
      rw [this]; grind
  have s0 : 0 ≤ u * u := by rw [e0]; exact Rat.mul_nonneg un un
  have s1 : u * u ≤ 173 / 1000 := by rw [e0]; have := mul_mono un hu un hu; grind
  obtain ⟨z, hz, r1⟩ := hf.mul hf (by rw [ab_pos s0]; grind)
  rw [ab_pos s0] at r1
  obtain ⟨t, ht, r3⟩ := core_upto hz s0 s1 r1 25 (by omega)
  obtain ⟨g0, g1⟩ := ak_size s0 s1 25 (by omega)
  have gb : ak (u * u) 25 ≤ 1 := by
    have e : ((2 * (25 - 25) + 1 : Nat) : Rat) = 1 := rfl
    rw [e, Rat.mul_one] at g1
    exact g1
  rw [BT_ak]
  clear g1
  generalize ak (u * u) 25 = g at *
  have t' := ab_le.1 r3
  have tb : ab t ≤ 101 / 100 := by rw [ab_le]; constructor <;> grind
  have atb : ab (u * t) ≤ 101 / 100 * ab u := by
    rw [ab_mul]
    have := Rat.mul_le_mul_of_nonneg_left tb un
    grind
  obtain ⟨s, hs, r4⟩ := hf.mul ht (by grind)
  have p := Rat.mul_nonneg (Rat.le_of_lt huu.1) un
  refine ⟨s, hs, ?_⟩
  have x := ab_tri s (u * t) (u * g)
  have e : ab (u * t - u * g) ≤ ab u * (3 * uu) := by
    rw [show u * t - u * g = u * (t - g) by grind, ab_mul]
    exact Rat.mul_le_mul_of_nonneg_left r3 un
  have m := Rat.mul_le_mul_of_nonneg_left atb (Rat.le_of_lt huu.1)
  grind
/-- what the angle of a small float is. -/
theorem tan_val {y : Nat} {Y : Rat} (hy : V y Y) (h : ab Y ≤ 53 / 128) (h0 : Y ≠ 0) : ∃ v, V (ofF y 4607182418800017408) (sq (sgn y) (ab v)) ∧ ab (v - BT (ab Y) 25) ≤ 41 / 10 * (uu * ab Y) + et := by
  have hva := hy.absv
  have lr := fin_rung hy.fin
  have l1 : (4607182418800017408 : Nat) < 9218868437227405312 := by decide
  have v1 := vfrac (w := 4607182418800017408) (N := 1) (D := 1) (by decide) (by decide) (by decide +kernel)
  have k1 : ((1 : Nat) : Rat) / ((1 : Nat) : Rat) = 1 := by decide +kernel
  rw [k1] at v1
  have vf := vfrac (w := 4601130706800738304) (N := 53) (D := 128) (by decide) (by decide) (by decide +kernel)
  have e53 : ((53 : Nat) : Rat) / ((128 : Nat) : Rat) = 53 / 128 := by decide +kernel
  rw [e53] at vf
  obtain ⟨v, hv, r⟩ := core_fine hva (by rw [ab_pos (ab_nn Y)]; grind)
  rw [ab_pos (ab_nn Y)] at r
  have far : farF (rung y) = false := by
    unfold farF
    rw [flt_val vf hva]; exact decide_eq_false (by grind)
  have e : ofAbs y 4607182418800017408 = fmul (rung y) (coreSeq (fmul (rung y) (rung y)) 25) := by
    unfold ofAbs placeP
    rw [fabs_of (fin_notN hy.fin), show fabs 4607182418800017408 = 4607182418800017408 by decide +kernel, show sgn 4607182418800017408 = false by decide +kernel]
    have z : feq (rung y) 0 = false := by
      rw [feq_zero (fin_notN hva.fin)]
      have nz := hy.nz h0
      have rr : rung (rung y) = rung y := (word_facts lr).2.2.1
      rw [rr]
      exact decide_eq_false nz
    have hi : isInf (rung y) 1 = false := by
      rw [isInf_one, flt_words (by decide) lr]; exact decide_eq_false (by omega)
    have hl : fle (rung y) 4607182418800017408 = true := by rw [fle_val hva v1]; exact decide_eq_true (by grind)
    have hb : ∀ b, backP false b = b := fun b => by unfold backP; exact if_neg (by decide)
    rw [hb, z, if_neg (by decide), hi, Bool.and_false, if_neg (by decide), hl, if_pos rfl, fdiv_unit hva.lt hva.fin]
    unfold coreF coreV coreU
    rw [far, if_neg (by decide), if_neg (by decide)]
  have e2 : ofF y 4607182418800017408 = wd (sgn y) (rung (ofAbs y 4607182418800017408)) := by
    unfold ofF
    rw [fin_notN hy.fin, show isN 4607182418800017408 = false by decide +kernel]
    show (if (false || false) = true then nanB else signed (ofAbs y 4607182418800017408) y) = _
    rw [if_neg (by decide)]
    exact sign_laid (by rw [e]; exact fin_notN hv.fin) (fin_notN hy.fin)
  have hw := V.word (s := sgn y) (fin_rung hv.fin)
  rw [← hv.size, ← e, ← e2] at hw
  exact ⟨v, hw, r⟩
theorem CS_cos {y : Rat} (hy : ab y ≤ 8 / 10) : ab ((CS y).re - 1) ≤ y * y + tw 61 := by
  have t := cnr_TT_sub (ig y) 19 181
  rw [nr_ig] at t
  have h1 := tail_le' (ab_nn y) (n := 19) (by have : ((19 + 2 : Nat) : Rat) = 21 := rfl
                                              rw [this]; grind) 181
  have h3 := ee_mono (ab_nn y) hy 20
  have h4 := ee_8
  have tot : cnr (CS y - cTT (ig y) 19) ≤ tw 61 := Rat.le_trans t (Rat.le_trans h1 (by
    rw [show 19 + 1 = 20 from rfl]
    have : tw 65 ≤ tw 61 := tw_le (by decide)
    grind))
  have tot' : ab ((CS y).re - (PSm y 20).re) + ab ((CS y).im - (PSm y 20).im) ≤ tw 61 := tot
  have n := ab_nn ((CS y).im - (PSm y 20).im)
  have p := (PSm_near hy 18).1
  have q := ab_nn (ee y (18 + 2))
  have x := ab_tri (CS y).re (PSm y 20).re 1
  rw [show 18 + 2 = 20 from rfl] at p q
  grind
/-- the tangent by parts. -/
theorem tan_core {t z : Rat} (h0 : 0 ≤ t) (h1 : t ≤ 53 / 128) (hz : ab (z - BT t 25) ≤ 411 / 100 * (uu * t) + 1001 / 1000 * et) : ab ((CS z).im - t * (CS z).re) ≤ 49 / 10 * (uu * t) + 119 / 100 * et := by
  have hu : 0 < uu ∧ uu ≤ 1 / 1000000000 := by decide +kernel
  have he0 := et_pos
  have het := et_uu
  have ut := mul_nn (Rat.le_of_lt hu.1) h0
  have ut1 := Rat.mul_le_mul_of_nonneg_left (show t ≤ 1 by grind) (Rat.le_of_lt hu.1)
  obtain ⟨B0, B1⟩ := BT_range h0 (show t ≤ 4144 / 10000 by grind)
  obtain ⟨d, hd⟩ : ∃ d, d = z - BT t 25 := ⟨_, rfl⟩
  rw [← hd] at hz
  have hdb : ab d ≤ 5 * uu := by grind
  rcases (show tw 30 ≤ t ∨ t < tw 30 by grind) with q | q
  · -- not small
    have p50 := pn_50
    have pm := pn_mono h0 (show t ≤ 4144 / 10000 by grind) (2 * 25)
    have pn0 := pn_nn h0 (2 * 25)
    obtain ⟨z1, z2⟩ := ZZ_all h0 (show t ≤ 1 / 2 by grind) 25 (Rat.le_trans pm (Rat.le_trans p50 (by decide +kernel)))
    have c2 : (ZZ t 25).im = t * (CS (BT t 25)).re - (CS (BT t 25)).im := by
      show ((⟨1, t⟩ : Cq) * CS (-(BT t 25))).im = _
      rw [CS_neg]
      show 1 * -(CS (BT t 25)).im + t * (CS (BT t 25)).re = _
      grind
    rw [c2] at z2
    have w : 2 * tw 94 ≤ 1 / 1000 * uu * tw 30 ∧ 10 * tw 63 ≤ 1 / 100 * uu := by decide +kernel
    have tq := Rat.mul_le_mul_of_nonneg_left q (show 0 ≤ 1 / 1000 * uu by grind)
    have tp := Rat.mul_le_mul_of_nonneg_left (Rat.le_trans pm p50) h0
    have tp2 := Rat.mul_le_mul_of_nonneg_right w.2 h0
    have I0 : ab (t * (CS (BT t 25)).re - (CS (BT t 25)).im) ≤ 11 / 1000 * (uu * t) := by
      have e1 : 1 / 1000 * uu * t = 1 / 1000 * (uu * t) := by grind
      have e2 : 1 / 100 * uu * t = 1 / 100 * (uu * t) := by grind
      rw [e1] at tq
      rw [e2] at tp2
      generalize t * pn t (2 * 25) = y1 at *
      generalize uu * t = y2 at *
      generalize ab (t * (CS (BT t 25)).re - (CS (BT t 25)).im) = y3 at *
      clear z1 c2 hz hd hdb
      grind
    obtain ⟨u1, u2⟩ := unit_parts (b := BT t 25) (by rw [ab_le]; constructor <;> grind)
    obtain ⟨f1, f2⟩ := CS_first (b := BT t 25) (d := d) (by rw [ab_le]; constructor <;> grind) (Rat.le_trans hdb (by decide +kernel))
    rw [show BT t 25 + d = z by rw [hd]; grind] at f1 f2
    have dd : d * d ≤ 5 * uu * (5 * uu) := by
      have e1 : d * d = ab d * ab d := by
        rcases (show 0 ≤ d ∨ d < 0 by grind) with k | k
        · rw [ab_pos k]
        · have : ab d = -d := by unfold ab; grind
          rw [this]; grind
      rw [e1]
      exact mul_mono (ab_nn _) hdb (ab_nn _) hdb
    have w2 : tw 440 + 21 / 10 * (5 * uu * (5 * uu)) ≤ 1 / 1000 * uu * tw 30 := by decide +kernel
    have er : tw 440 + 21 / 10 * (d * d) ≤ 1 / 1000 * (uu * t) := by
      have e1 : 1 / 1000 * uu * t = 1 / 1000 * (uu * t) := by grind
      rw [e1] at tq
      grind
    generalize (CS (BT t 25)).re = C at *
    generalize (CS (BT t 25)).im = S at *
    generalize (CS z).re = C1 at *
    generalize (CS z).im = S1 at *
    have Sb : ab S ≤ 417 / 1000 := by
      have x := ab_sub (t * C) (t * C - S)
      rw [show t * C - (t * C - S) = S by grind, ab_mul, ab_pos h0] at x
      have m := mul_mono h0 h1 (ab_nn C) u1
      grind
    have Rb : ab (C + t * S) ≤ 118 / 100 := by
      have x := ab_add C (t * S)
      rw [ab_mul t S, ab_pos h0] at x
      have m := mul_mono h0 h1 (ab_nn S) Sb
      grind
    have dR : ab (d * (C + t * S)) ≤ 118 / 100 * ab d := by
      rw [ab_mul]
      have := Rat.mul_le_mul_of_nonneg_left Rb (ab_nn d)
      grind
    have e : S1 - t * C1 = (S1 - (S + C * d)) - t * (C1 - (C - S * d)) + -(t * C - S) + d * (C + t * S) := by grind
    rw [e]
    have a1 := ab_add ((S1 - (S + C * d)) - t * (C1 - (C - S * d)) + -(t * C - S)) (d * (C + t * S))
    have a2 := ab_add ((S1 - (S + C * d)) - t * (C1 - (C - S * d))) (-(t * C - S))
    have a3 := ab_sub (S1 - (S + C * d)) (t * (C1 - (C - S * d)))
    rw [ab_neg] at a2
    have a4 : ab (t * (C1 - (C - S * d))) ≤ 1 / 1000 * (uu * t) := by
      rw [ab_mul, ab_pos h0]
      have := Rat.mul_le_mul_of_nonneg_right (show t ≤ 1 by grind) (ab_nn (C1 - (C - S * d)))
      grind
    clear e c2 z1 z2 hd B0 B1 tp tp2 tq Rb Sb u1 u2
    generalize ab (d * (C + t * S)) = y1 at *
    generalize ab (t * (C1 - (C - S * d))) = y2 at *
    generalize ab (S1 - (S + C * d)) = y3 at *
    generalize ab (t * C - S) = y4 at *
    generalize uu * t = y5 at *
    grind
  · -- small
    have w : tw 30 ≤ 1 / 100000000 ∧ tw 61 ≤ 1 / 100 * uu ∧ 4 * (tw 30 * tw 30) ≤ 1 / 20 * uu ∧ 0 ≤ tw 30 := by decide +kernel
    have zt : ab (z - t) ≤ 413 / 100 * (uu * t) + 1001 / 1000 * et := by
      -- the sum is the float, nearly
      obtain ⟨a0, a1⟩ := ak_size (z := t * t) (mul_nn h0 h0) (by have := mul_mono h0 h1 h0 h1; grind) 24 (by omega)
      have e : ak (t * t) 25 = 1 / ((2 * (24 - 24) + 1 : Nat) : Rat) - t * t * ak (t * t) 24 := rfl
      have n1 : ((2 * (24 - 24) + 1 : Nat) : Rat) = 1 := rfl
      have n3 : ((2 * (25 - 24) + 1 : Nat) : Rat) = 3 := rfl
      rw [n1] at e
      rw [n3] at a1
      have tt : t * t ≤ tw 30 * tw 30 := mul_mono h0 (Rat.le_of_lt q) h0 (Rat.le_of_lt q)
      have m := mul_mono (mul_nn h0 h0) tt a0 (show ak (t * t) 24 ≤ 1 by grind)
      have m0 := mul_nn (mul_nn h0 h0) a0
      have b : ab (BT t 25 - t) ≤ 1 / 80 * (uu * t) := by
        rw [BT_ak, e]
        have f : t * (1 / 1 - t * t * ak (t * t) 24) - t = -(t * (t * t * ak (t * t) 24)) := by grind
        rw [f, ab_neg, ab_pos (mul_nn h0 m0)]
        have k := Rat.mul_le_mul_of_nonneg_left (show t * t * ak (t * t) 24 ≤ 1 / 80 * uu by grind) h0
        grind
      have x := ab_tri z (BT t 25) t
      rw [← hd] at x
      clear e m m0 tt
      generalize uu * t = y5 at *
      grind
    have zb : ab z ≤ 2 * tw 30 := by
      have x := ab_add (z - t) t
      rw [show z - t + t = z by grind, ab_pos h0] at x
      have k : 10 * uu ≤ tw 30 := by decide +kernel
      grind
    have z8 : ab z ≤ 8 / 10 := by grind
    have zz : z * z ≤ 4 * (tw 30 * tw 30) := by
      have e1 : z * z = ab z * ab z := by
        rcases (show 0 ≤ z ∨ z < 0 by grind) with k | k
        · rw [ab_pos k]
        · have : ab z = -z := by unfold ab; grind
          rw [this]; grind
      rw [e1]
      have := mul_mono (ab_nn z) zb (ab_nn z) zb
      grind
    obtain ⟨y0, y1, y2⟩ := yy_small z8
    have c := CS_cos z8
    have s := CS_sine z8
    have lip := sp_lip (s := z * z) (t := 0) y0 y2 Rat.le_refl (by decide +kernel) 9 (by omega)
    have s0 : sp 0 9 = 1 := by decide +kernel
    rw [s0, show z * z - 0 = z * z by grind, ab_pos y0] at lip
    have sz : ab ((CS z).im - z) ≤ 1 / 10 * (uu * ab z) := by
      have x := ab_tri (CS z).im (z * sp (z * z) 9) z
      have e : ab (z * sp (z * z) 9 - z) ≤ 1 / 20 * uu * ab z := by
        rw [show z * sp (z * z) 9 - z = z * (sp (z * z) 9 - 1) by grind, ab_mul]
        have := Rat.mul_le_mul_of_nonneg_left (Rat.le_trans lip (Rat.le_trans zz w.2.2.1)) (ab_nn z)
        grind
      have k := Rat.mul_le_mul_of_nonneg_right w.2.1 (ab_nn z)
      have e1 : 1 / 20 * uu * ab z = 1 / 20 * (uu * ab z) := by grind
      have e2 : 1 / 100 * uu * ab z = 1 / 100 * (uu * ab z) := by grind
      rw [e1] at e
      rw [e2] at k
      have uz := mul_nn (Rat.le_of_lt hu.1) (ab_nn z)
      generalize uu * ab z = y7 at *
      clear lip c y0 y1 y2 zz
      grind
    have uz : uu * ab z ≤ 2 * (uu * t) + et := by
      have x := ab_add (z - t) t
      rw [show z - t + t = z by grind, ab_pos h0] at x
      have k := Rat.mul_le_mul_of_nonneg_left x (Rat.le_of_lt hu.1)
      have k2 := Rat.mul_le_mul_of_nonneg_left zt (Rat.le_of_lt hu.1)
      have uut := Rat.mul_le_mul_of_nonneg_right hu.2 ut
      have uet := Rat.mul_le_mul_of_nonneg_right hu.2 (Rat.le_of_lt he0)
      have e1 : uu * (ab (z - t) + t) = uu * ab (z - t) + uu * t := by grind
      have e2 : uu * (413 / 100 * (uu * t) + 1001 / 1000 * et) = 413 / 100 * (uu * (uu * t)) + 1001 / 1000 * (uu * et) := by grind
      rw [e1] at k
      rw [e2] at k2
      generalize uu * (uu * t) = y6 at *
      generalize uu * et = y7 at *
      generalize uu * t = y5 at *
      generalize uu * ab (z - t) = y8 at *
      clear zt zz
      grind
    have ct : ab (t * ((CS z).re - 1)) ≤ 6 / 100 * (uu * t) := by
      rw [ab_mul, ab_pos h0]
      have := Rat.mul_le_mul_of_nonneg_left (show ab ((CS z).re - 1) ≤ 6 / 100 * uu by grind) h0
      grind
    have e : (CS z).im - t * (CS z).re = ((CS z).im - z) + (z - t) - t * ((CS z).re - 1) := by grind
    rw [e]
    have a1 := ab_sub ((CS z).im - z + (z - t)) (t * ((CS z).re - 1))
    have a2 := ab_add ((CS z).im - z) (z - t)
    clear e c s lip zz y0 y1 y2 hd hz B0 B1
    generalize ab (t * ((CS z).re - 1)) = x1 at *
    generalize ab ((CS z).im - z) = x2 at *
    generalize ab (z - t) = x3 at *
    generalize uu * ab z = x4 at *
    generalize uu * t = x5 at *
    grind
end Go.Proofs.YtcfkhhnkboealaaDoor
