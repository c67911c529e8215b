/- Half the difference of exponentials, by value, from 1/3 on; all of both. No text of the program. -/
import Derived.Test.YtcfkhhnkboealaaDoorHc
namespace Go.Proofs.YtcfkhhnkboealaaDoor
open Go.RowKit
set_option linter.unusedVariables false
set_option linter.unusedSimpArgs false
set_option maxRecDepth 100000
set_option maxHeartbeats 4000000
open Turns Sizes
theorem room_more {e y G l d : Rat} (hy : 39 / 100 ≤ y) (hn : ab (e - (1 + y)) ≤ 793 / 100 * (uu * e)) (he : 998 / 1000 ≤ e) (h : 101 / 100 * ab (e - (1 + y)) ≤ 4 * G) (hl : ab (l - (e - 1)) ≤ uu * ab (e - 1)) (g2 : e < 2 → G ≤ 2 * uu) (g4 : e < 4 → G ≤ 4 * uu) (gn : G ≤ 2 * uu * e) (hd : d = 400 / 101 * G + uu * ab (e - 1)) :
    ab (l - y) ≤ d ∧ d ≤ 1 / 1000 * y ∧ (y < 999 / 1000 → d ≤ uu * (793 / 100 + 101 / 100 * y)) ∧ (y < 2 → d ≤ uu * (1585 / 100 + 101 / 100 * y)) ∧ (2 ≤ y → d ≤ uu * (793 / 100 * (1 + y) + 101 / 100 * y)) := by
  have hu : 0 < uu ∧ uu ≤ 1 / 1000000 := by decide +kernel
  have k1 := Rat.mul_le_mul_of_nonneg_right hu.2 (show 0 ≤ e by grind)
  have n1 := ab_le.1 hn
  have e1 : e ≤ (1 + y) * (10001 / 10000) := by grind
  have e2 : (1 + y) * (9999 / 10000) ≤ e := by grind
  have hab : ab (e - 1) = e - 1 := ab_pos (by grind)
  rw [hab] at hl hd
  have k2 := Rat.mul_le_mul_of_nonneg_left e1 (Rat.le_of_lt hu.1)
  have k3 := Rat.mul_le_mul_of_nonneg_left (show e - 1 ≤ 1005 / 1000 * y by grind) (Rat.le_of_lt hu.1)
  have p := Rat.mul_pos hu.1 (show 0 < y by grind)
  have k4 := Rat.mul_le_mul_of_nonneg_right hu.2 (show 0 ≤ y by grind)
  have en : 2 * uu * e = 2 * (uu * e) := by grind
  rw [en] at gn
  have ek : uu * ((1 + y) * (10001 / 10000)) = 10001 / 10000 * uu + 10001 / 10000 * (uu * y) := by grind
  rw [ek] at k2
  refine ⟨?_, ?_, ?_, ?_, ?_⟩
  · have t := ab_tri l (e - 1) y
    rw [show e - 1 - y = e - (1 + y) by grind] at t
    grind
  · clear g2 g4 h hn hl
    grind
  · intro hc
    have := g2 (by grind)
    clear g2 g4 h hn hl
    grind
  · intro hc
    have := g4 (by grind)
    clear g2 g4 h hn hl
    grind
  · intro hc
    clear g2 g4 h hn hl
    grind
theorem sinh_more {E : Nat} {v w e : Rat} (hE : V E e) (hEl : E < 9218868437227405312) (hq : E / 4503599627370496 < 1078) (hv : 139 / 100 ≤ v) (hvw : ab (v * w - 1) ≤ tw 290) (h : 101 / 100 * ab (e - v) ≤ 4 * gapq E) :
    ∃ L s, L = fsub E 4607182418800017408 ∧ Proofs.YtcfkhhnkboealaaDoor.fin L = true ∧ V (fmul (fadd L (fdiv L (fadd L 4607182418800017408))) 4602678819172646912) s ∧ 0 < s ∧ fmul (fadd L (fdiv L (fadd L 4607182418800017408))) 4602678819172646912 < 9218868437227405312 ∧ ab (s - (v - w) * (1 / 2)) ≤ 1595 / 100 * gapq (fmul (fadd L (fdiv L (fadd L 4607182418800017408))) 4602678819172646912) := by
  have hu : 0 < uu ∧ uu ≤ 1 / 1000000 := by decide +kernel
  obtain ⟨b1, b2⟩ := near_to hE hEl (by grind) h
  have hm := mid_val hE hEl hq
  have hB := BG_big
  obtain ⟨l, hl, g0⟩ := hE.sub V.unit1 (by rw [ab_le]; clear h hvw b1; generalize BG = B at *; constructor <;> grind)
  obtain ⟨y, hyd⟩ : ∃ y, y = v - 1 := ⟨_, rfl⟩
  have hvy : v = 1 + y := by grind
  obtain ⟨d, hd⟩ : ∃ d, d = 400 / 101 * gapq E + uu * ab (e - 1) := ⟨_, rfl⟩
  rw [hvy] at b1 h
  obtain ⟨r1, r2, r3⟩ := room_more (by grind) b1 b2 h g0 (fun k => gap_two hE k hEl) (fun k => gap_four hE k hEl) (gap_normal hE (by grind) hEl) hd
  have hy0 : 0 < y := by grind
  have l1 := ab_le.1 r1
  have hl0 : 0 < l := by grind
  have hlm : l ≤ 1152921504606846976 := by
    have k0 := Rat.mul_le_mul_of_nonneg_right hu.2 (show 0 ≤ e by grind)
    have b1' := (ab_le.1 b1).1
    have he1 : 0 ≤ e - 1 := by generalize uu * e = A at *; clear h r1 r2 r3 g0; grind
    have k := Rat.mul_le_mul_of_nonneg_right hu.2 (ab_nn (e - 1))
    rw [ab_pos he1] at g0 k
    have := (ab_le.1 g0).2
    grind
  obtain ⟨p, q, t, s, hs, g1, g2, g3, g4⟩ := sinh_chain hl hl0 hlm
  have pone : pw (-200) ≤ 1 / 100 := by decide +kernel
  have m1 := Rat.mul_pos hu.1 hy0
  have hey : et ≤ 1 / 1000 * (uu * y) := by
    have := et_200
    have k := Rat.mul_le_mul_of_nonneg_left (show pw (-200) ≤ y by grind) (Rat.le_of_lt hu.1)
    grind
  obtain ⟨D, Z, z1, z2, z3, z4, z5, z6, z7⟩ := half_sum hy0 r1 r2 g1 g2 g3 g4 (Rat.le_of_lt et_pos) hey
  have hD1 : D ≤ 1 := by
    have := half_D (c := 1) z1 z2 (by decide +kernel) (by have := Rat.mul_pos hy0 hl0; grind)
    rwa [show (1 : Rat) / 1 = 1 by decide +kernel] at this
  have hd0 : 0 ≤ d := Rat.le_trans (ab_nn _) r1
  have m2 := Rat.mul_pos hu.1 z4
  have hT : d * (1 + D) * (1 / 2) + uu * (101 / 100) * Z + uu * (101 / 100) * (y + Z) + 1 / 100 * (uu * y) ≤ 1 / 10 * y := by
    have c1 := half_prod (Rat.le_refl (a := d)) hd0 z2 hD1
    have c2 := Rat.mul_le_mul_of_nonneg_right hu.2 (Rat.le_of_lt hy0)
    have c3 := Rat.mul_le_mul_of_nonneg_left z5 (Rat.le_of_lt hu.1)
    clear g1 g2 g3 g4 r3 hd z7
    grind
  have hs0 : 0 < s := by
    have c5 := (ab_le.1 z7).1
    grind
  have hW := posW hs hs0
  obtain ⟨u1, u2, u3⟩ := unit_least hs hW
  refine ⟨_, s, rfl, hl.fin, hs, hs0, hW, ?_⟩
  refine sinh_end (a := y) hs hW (by grind) (by grind) (by grind) hyd hvw z3 z4 z7 hT ?_
  exact half_room (l := l) (by grind) (by grind) z1 z2 z3 z6 hd0 r3 (Rat.le_refl) z7 u1 u2 u3
/-- the difference of one, at the top. -/
theorem top_less {e : Nat} {v : Rat} (h1 : 1076 ≤ e / 4503599627370496) (h2 : e < 9218868437227405312) (h : 101 / 100 * ab ((mval e : Rat) / (U : Rat) - v) ≤ 4 * gapq e) :
    e - 1 ≤ fsub e 4607182418800017408 ∧ fsub e 4607182418800017408 ≤ e ∧ 101 / 100 * ab ((mval (fsub e 4607182418800017408) : Rat) / (U : Rat) - (v - 1)) ≤ 11 * gapq (fsub e 4607182418800017408) ∧ 1 ≤ gapq (fsub e 4607182418800017408) := by
  rw [sub_one h2 (by omega)]
  obtain ⟨d, hd⟩ : ∃ d, d + 1 = e := ⟨e - 1, by omega⟩
  have st := mval_step d
  rw [hd] at st
  obtain ⟨L, hL⟩ : ∃ L, L = d / 4503599627370496 - 1 := ⟨_, rfl⟩
  rw [← hL] at st
  have hUL : U ≤ 2 ^ L := by rw [U_def]; exact Nat.pow_le_pow_right (by decide) (by rw [e1_eq]; omega)
  have lo : mval d ≤ mval e - U := by
    generalize 2 ^ L = Z at *
    generalize U = u at *
    omega
  have r1 : d ≤ rndN (mval e - U) := le_rndN_of (by omega) lo
  have r2 : rndN (mval e - U) ≤ e := rndN_le_of h2 (Nat.sub_le _ _)
  clear lo
  generalize rndN (mval e - U) = l at *
  refine ⟨by clear hUL st; omega, r2, ?_⟩
  have gd := gap_eq d
  rw [← hL] at gd
  have g1 := gap_mono r1
  have g0 := gap_pos d
  have ge : gapq e ≤ 2 * gapq d := by
    rw [gd, gap_eq]
    have k : 2 ^ (e / 4503599627370496 - 1) ≤ 2 * 2 ^ L := by
      rw [← Nat.pow_succ']
      exact Nat.pow_le_pow_right (by decide) (by clear hUL st; omega)
    have k2 := cast_le.2 k
    rw [cast_mul] at k2
    rw [div_le UQ_pos]
    have a := div_self_mul ((2 ^ L : Nat) : Rat) UQ_ne
    have e2 : ((2 : Nat) : Rat) = 2 := rfl
    rw [e2] at k2
    generalize ((2 ^ L : Nat) : Rat) = Z at *
    grind
  have one : 1 ≤ gapq d := by
    rw [gd, le_div UQ_pos, Rat.one_mul]
    exact cast_le.2 hUL
  have up : (mval e : Rat) / (U : Rat) = (mval d : Rat) / (U : Rat) + gapq d := by
    rw [gd, st]
    have e3 : ((mval d + 2 ^ L : Nat) : Rat) = (mval d : Rat) + ((2 ^ L : Nat) : Rat) := by grind
    rw [e3]
    have := UQ_ne
    grind
  have x1 : (mval d : Rat) / (U : Rat) ≤ (mval l : Rat) / (U : Rat) := by
    rw [div_le UQ_pos, div_self_mul _ UQ_ne]
    exact cast_le.2 (mval_le_iff.2 r1)
  have x2 : (mval l : Rat) / (U : Rat) ≤ (mval e : Rat) / (U : Rat) := by
    rw [div_le UQ_pos, div_self_mul _ UQ_ne]
    exact cast_le.2 (mval_le_iff.2 r2)
  clear hUL st gd
  generalize (mval d : Rat) / (U : Rat) = D at *
  generalize (mval e : Rat) / (U : Rat) = E at *
  generalize (mval l : Rat) / (U : Rat) = X at *
  have t := ab_tri X E (v - 1)
  have t2 := ab_add (E - v) 1
  have e9 : ab 1 = 1 := by decide +kernel
  rw [show E - v + 1 = E - (v - 1) by grind, e9] at t2
  have t3 : ab (X - E) ≤ gapq d := by rw [ab_le]; constructor <;> grind
  constructor <;> grind
theorem sinh_top {E : Nat} {v w : Rat} (hEl : E < 9218868437227405312) (hq : 1078 ≤ E / 4503599627370496) (hw0 : 0 ≤ w) (hw : w ≤ 1) (h : 101 / 100 * ab ((mval E : Rat) / (U : Rat) - v) ≤ 4 * gapq E) :
    ∃ L s, L = fsub E 4607182418800017408 ∧ Proofs.YtcfkhhnkboealaaDoor.fin L = true ∧ V (fmul (fadd L (fdiv L (fadd L 4607182418800017408))) 4602678819172646912) s ∧ 0 < s ∧ fmul (fadd L (fdiv L (fadd L 4607182418800017408))) 4602678819172646912 < 9218868437227405312 ∧ ab (s - (v - w) * (1 / 2)) ≤ 1595 / 100 * gapq (fmul (fadd L (fdiv L (fadd L 4607182418800017408))) 4602678819172646912) := by
  obtain ⟨l1, l2, l3, l4⟩ := top_less (by omega) hEl h
  obtain ⟨L, hL⟩ : ∃ L, L = fsub E 4607182418800017408 := ⟨_, rfl⟩
  rw [← hL] at l1 l2 l3 l4
  have hLl : L < 9218868437227405312 := by omega
  have hLq : 1077 ≤ L / 4503599627370496 := by omega
  have hV := V.pos hLl
  obtain ⟨p1, p2, _⟩ := add_top (d := 4607182418800017408) hLq hLl (by decide)
  have hP := V.pos p2
  have big := great_val hV hLl hLq
  have hlp : 0 ≤ (mval L : Rat) / (U : Rat) / ((mval (fadd L 4607182418800017408) : Rat) / (U : Rat)) ∧ (mval L : Rat) / (U : Rat) / ((mval (fadd L 4607182418800017408) : Rat) / (U : Rat)) ≤ 1 := by
    have k1 := cast_le.2 (mval_le_iff.2 p1)
    have k2 : (mval L : Rat) / (U : Rat) ≤ (mval (fadd L 4607182418800017408) : Rat) / (U : Rat) := by
      rw [div_le UQ_pos, div_self_mul _ UQ_ne]; exact k1
    generalize (mval L : Rat) / (U : Rat) = x at *
    generalize (mval (fadd L 4607182418800017408) : Rat) / (U : Rat) = y at *
    have y0 : 0 < y := by grind
    constructor
    · rw [le_div y0]; grind
    · rw [div_le y0]; grind
  have hB := BG_big
  have hpos : (0 : Rat) < (mval (fadd L 4607182418800017408) : Rat) / (U : Rat) := by
    have k1 := cast_le.2 (mval_le_iff.2 p1)
    have k2 : (mval L : Rat) / (U : Rat) ≤ (mval (fadd L 4607182418800017408) : Rat) / (U : Rat) := by
      rw [div_le UQ_pos, div_self_mul _ UQ_ne]; exact k1
    grind
  obtain ⟨q, hq2, g2⟩ := hV.div hP (by grind) (by rw [ab_pos hlp.1]; grind)
  rw [ab_pos hlp.1] at g2
  have hu : 0 < uu ∧ uu ≤ 1 / 1000000 := by decide +kernel
  have het : et ≤ 1 / 1000 := Rat.le_trans et_200 (by decide +kernel)
  have k3 := Rat.mul_le_mul_of_nonneg_right hu.2 hlp.1
  have q1 := ab_le.1 g2
  have hqw : fdiv L (fadd L 4607182418800017408) ≤ 4611686018427387904 := by
    have hw2 : fdiv L (fadd L 4607182418800017408) < 9218868437227405312 := by
      refine posW hq2 ?_
      have lo : (1 / 2 : Rat) ≤ (mval L : Rat) / (U : Rat) / ((mval (fadd L 4607182418800017408) : Rat) / (U : Rat)) := by
        rw [le_div hpos]
        obtain ⟨_, _, p3⟩ := add_top (d := 4607182418800017408) hLq hLl (by decide)
        have gg := gap_up (r := L) (by omega)
        have := (ab_le.1 p3).2
        have k5 := Rat.mul_le_mul_of_nonneg_right hu.2 (show 0 ≤ (mval L : Rat) / (U : Rat) by grind)
        grind
      grind
    exact Nat.le_of_lt (below_word hq2 (by grind) hw2 word_two)
  obtain ⟨t1, t2, t3⟩ := add_top hLq hLl hqw
  obtain ⟨s1, s2, s3⟩ := half_word (t := fadd L (fdiv L (fadd L 4607182418800017408))) (by omega) t2
  have hl : fadd L (fdiv L (fadd L 4607182418800017408)) - 4503599627370496 < 9218868437227405312 := by omega
  have gm := gap_mono t1
  refine ⟨L, _, hL, hV.fin, by rw [s1]; exact V.pos hl, ?_, by rw [s1]; exact hl, ?_⟩
  · have k1 := cast_le.2 (mval_le_iff.2 t1)
    have k2 : (mval L : Rat) / (U : Rat) ≤ (mval (fadd L (fdiv L (fadd L 4607182418800017408))) : Rat) / (U : Rat) := by
      rw [div_le UQ_pos, div_self_mul _ UQ_ne]; exact k1
    rw [s2] at k2
    grind
  · rw [s1]
    rw [s2] at t3
    clear g2 q1 k3 hlp hqw p1 p2 hP s1 s2 t1 t2 hq2 hpos
    generalize (mval (fadd L (fdiv L (fadd L 4607182418800017408)) - 4503599627370496) : Rat) / (U : Rat) = c at *
    generalize gapq (fadd L (fdiv L (fadd L 4607182418800017408)) - 4503599627370496) = G at *
    generalize (mval L : Rat) / (U : Rat) = x at *
    have half : ab (1 / 2 : Rat) = 1 / 2 := by decide +kernel
    have x1 : ab (c - (v - w) * (1 / 2)) ≤ 1 / 2 * (ab (2 * c - x) + ab (x - (v - 1)) + 1) := by
      rw [show c - (v - w) * (1 / 2) = 1 / 2 * ((2 * c - x) + (x - (v - 1)) - (1 - w)) by grind, ab_mul, half]
      have a1 := ab_sub ((2 * c - x) + (x - (v - 1))) (1 - w)
      have a2 := ab_add (2 * c - x) (x - (v - 1))
      rw [ab_pos (show 0 ≤ 1 - w by grind)] at a1
      grind
    clear half
    grind
end Go.Proofs.YtcfkhhnkboealaaDoor
