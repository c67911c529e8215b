/- A quarter of a circle. No text of the program. A float less whole quarters of a circle, by value. No text of the program. The program's sine and cosine of any fit float by value. No text of the program. -/
import Derived.Test.YtcfkhhnkboealaaCce
namespace Go.Proofs.Ytcfkhhnkboealaa
open Go.RowKit
set_option linter.unusedVariables false
set_option linter.unusedSimpArgs false
set_option maxRecDepth 100000
set_option maxHeartbeats 4000000
open Turns Sizes
open Cs (cnr)
def hp : Rat := 127438138015862315638027235646471 / 81129638414606681695789005144064
theorem hp_size : 0 ≤ hp ∧ hp ≤ 1571 / 1000 ∧ 1570 / 1000 ≤ hp := by decide +kernel
def c16 : Rat := 1387085063436625329819391635389856343645850 / 1393796574908163946345982392040522594123776
def s16 : Rat := 136615954473634430956129046259364318665267 / 1393796574908163946345982392040522594123776
def h16 : Rat := hp / 16
theorem h16_num : ab (cp (h16 * h16) 9 - c16) ≤ tw 126 ∧ ab (h16 * sp (h16 * h16) 9 - s16) ≤ tw 126 ∧ 0 ≤ h16 ∧ h16 ≤ 1 / 10 := by decide +kernel
theorem ee_01 : 2 * ee (1 / 10 : Rat) 20 ≤ tw 126 := by decide +kernel
theorem CS_steps2 {y : Rat} (h : ab y ≤ 1 / 10) : cnr (CS y - cTT (ig y) 19) ≤ tw 126 := by
  have h1 := cnr_TT_sub (ig y) 19 181
  rw [nr_ig] at h1
  have h2 := tail_le' (ab_nn y) (n := 19) (by have : ((19 + 2 : Nat) : Rat) = 21 := rfl
                                              rw [this]; grind) 181
  have h3 := ee_mono (ab_nn y) h 20
  have h4 := ee_01
  refine Rat.le_trans h1 (Rat.le_trans h2 ?_)
  rw [show 19 + 1 = 20 from rfl]
  grind
theorem CS_16 {y c s : Rat} (h : ab (cp (y * y) 9 - c) ≤ tw 126 ∧ ab (y * sp (y * y) 9 - s) ≤ tw 126 ∧ 0 ≤ y ∧ y ≤ 1 / 10) : cnr (CS y - (⟨c, s⟩ : Cq)) ≤ tw 124 := by
  obtain ⟨a, b, k, d⟩ := h
  have h := CS_steps2 (y := y) (by rw [ab_pos k]; exact d)
  obtain ⟨t1, t2⟩ := TT19 y
  have h5 : ab ((CS y).re - (cTT (ig y) 19).re) + ab ((CS y).im - (cTT (ig y) 19).im) ≤ tw 126 := h
  rw [t1, t2] at h5
  generalize cp (y * y) 9 = X at *
  generalize y * sp (y * y) 9 = Y at *
  show ab ((CS y).re - c) + ab ((CS y).im - s) ≤ tw 124
  have u1 := ab_tri (CS y).re X c
  have u2 := ab_tri (CS y).im Y s
  have t : tw 126 + tw 126 + tw 126 ≤ tw 124 := by decide +kernel
  grind
/-- doubling. -/
theorem CS_twice {y e : Rat} {K : Cq} (hy : ab y ≤ 2) (h : cnr (CS y - K) ≤ e) (he : e ≤ 1 / 1000) (he2 : tw 430 ≤ e) : cnr (CS (2 * y) - K * K) ≤ 5 * e := by
  have a := CS_add (x := y) (y := y) (by grind) (by grind)
  rw [show y + y = 2 * y by grind] at a
  have l := (CS_len (y := y) (by grind)).2
  have k1 := Cs.add (-(CS y - K)) (CS y)
  rw [cq_back, Cs.neg] at k1
  have m1 := Cs.mul (CS y - K) (CS y)
  have m2 := Cs.mul K (CS y - K)
  have t1 := mul_mono (Cs.nn (CS y - K)) h (Cs.nn _) l
  have t2 := mul_mono (Cs.nn K) (show cnr K ≤ 2101 / 1000 by grind) (Cs.nn _) h
  have s1 := Cs.add (-(CS y * CS y - CS (2 * y))) ((CS y - K) * CS y + K * (CS y - K))
  have s2 := Cs.add ((CS y - K) * CS y) (K * (CS y - K))
  have n := Cs.neg (CS y * CS y - CS (2 * y))
  rw [n] at s1
  have e1 : -(CS y * CS y - CS (2 * y)) + ((CS y - K) * CS y + K * (CS y - K)) = CS (2 * y) - K * K := cq_sq _ _ _
  rw [e1] at s1
  have t : tw 440 ≤ 1 / 1000 * tw 430 := by decide +kernel
  have tp := tw_pos 430
  grind
def sqC (a : Rat × Rat) : Rat × Rat := (a.1 * a.1 - a.2 * a.2, a.1 * a.2 + a.2 * a.1)
theorem num_16 : ab ((sqC (sqC (sqC (sqC (c16, s16))))).1 - 0) + ab ((sqC (sqC (sqC (sqC (c16, s16))))).2 - 1) ≤ tw 105 := by decide +kernel
theorem sqC_eq (a : Rat × Rat) : ((⟨a.1, a.2⟩ : Cq) * ⟨a.1, a.2⟩) = ⟨(sqC a).1, (sqC a).2⟩ := rfl
theorem CS_four {y : Rat} {a : Rat × Rat} (h0 : 0 ≤ y) (h1 : y ≤ 1 / 10) (a0 : cnr (CS y - (⟨a.1, a.2⟩ : Cq)) ≤ tw 124) : cnr (CS (16 * y) - (⟨(sqC (sqC (sqC (sqC a)))).1, (sqC (sqC (sqC (sqC a)))).2⟩ : Cq)) ≤ 625 * tw 124 := by
  have t0 : tw 124 ≤ 1 / 1000000000 ∧ tw 430 ≤ tw 124 := by decide +kernel
  have tp := tw_pos 124
  have ph : ∀ k : Rat, 0 ≤ k → k ≤ 8 → ab (k * y) ≤ 2 := by
    intro k k0 k1
    rw [ab_pos (Rat.mul_nonneg k0 h0)]
    have := mul_mono k0 k1 h0 h1
    grind
  have a1 := CS_twice (y := y) (e := tw 124) (by have := ph 1 (by decide +kernel) (by decide +kernel); rwa [Rat.one_mul] at this) a0 (by grind) t0.2
  rw [sqC_eq a] at a1
  have a2 := CS_twice (y := 2 * y) (e := 5 * tw 124) (ph 2 (by decide +kernel) (by decide +kernel)) a1 (by grind) (by grind)
  rw [sqC_eq] at a2
  have a3 := CS_twice (y := 2 * (2 * y)) (e := 5 * (5 * tw 124)) (by rw [show 2 * (2 * y) = 4 * y by grind]; exact ph 4 (by decide +kernel) (by decide +kernel)) a2 (by grind) (by grind)
  rw [sqC_eq] at a3
  have a4 := CS_twice (y := 2 * (2 * (2 * y))) (e := 5 * (5 * (5 * tw 124))) (by rw [show 2 * (2 * (2 * y)) = 8 * y by grind]; exact ph 8 (by decide +kernel) (by decide +kernel)) a3 (by grind) (by grind)
  rw [sqC_eq, show 2 * (2 * (2 * (2 * y))) = 16 * y by grind] at a4
  exact Rat.le_trans a4 (by grind)
theorem CS_join {x e : Rat} {Q : Rat × Rat} (h : cnr (CS x - (⟨Q.1, Q.2⟩ : Cq)) ≤ e) (b : ab (Q.1 - 0) + ab (Q.2 - 1) ≤ tw 105) : cnr (CS x - (⟨0, 1⟩ : Cq)) ≤ e + tw 105 := by
  have b' : cnr ((⟨Q.1, Q.2⟩ : Cq) - (⟨0, 1⟩ : Cq)) ≤ tw 105 := b
  have s := Cs.add (CS x - (⟨Q.1, Q.2⟩ : Cq)) ((⟨Q.1, Q.2⟩ : Cq) - (⟨0, 1⟩ : Cq))
  rw [cq_via] at s
  grind
theorem h16_hp : 16 * h16 = hp := by decide +kernel
/-- A QUARTER: the turn by hp is beside i. -/
theorem CS_hp : cnr (CS hp - (⟨0, 1⟩ : Cq)) ≤ tw 104 := by
  have a := CS_four (a := (c16, s16)) h16_num.2.2.1 h16_num.2.2.2 (CS_16 h16_num)
  rw [h16_hp] at a
  exact Rat.le_trans (CS_join a num_16) (by decide +kernel)
/-- i to a whole power. -/
def ii : Nat → Cq
  | 0 => 1
  | n + 1 => ii n * ⟨0, 1⟩
theorem nr_i : cnr (⟨0, 1⟩ : Cq) = 1 := by decide +kernel
theorem nr_ii : ∀ n, cnr (ii n) ≤ 1
  | 0 => by show cnr (1 : Cq) ≤ 1; rw [Cs.one]; exact Rat.le_refl
  | n + 1 => by
    have h := Cs.mul (ii n) (⟨0, 1⟩ : Cq)
    rw [nr_i] at h
    have := nr_ii n
    show cnr (ii n * ⟨0, 1⟩) ≤ 1
    grind
theorem turn_join {A H Z : Cq} {e1 e2 : Rat} (a : cnr (A * H - Z) ≤ e1) (b : cnr (H - (⟨0, 1⟩ : Cq)) ≤ e2) (l : cnr A ≤ 21 / 10) : cnr (Z - A * (⟨0, 1⟩ : Cq)) ≤ e1 + 21 / 10 * e2 := by
  have m := Cs.mul A (H - (⟨0, 1⟩ : Cq))
  have m2 := mul_mono (Cs.nn A) l (Cs.nn _) b
  have s := Cs.add (-(A * H - Z)) (A * (H - (⟨0, 1⟩ : Cq)))
  have n := Cs.neg (A * H - Z)
  rw [n] at s
  have e : -(A * H - Z) + A * (H - (⟨0, 1⟩ : Cq)) = Z - A * (⟨0, 1⟩ : Cq) := cq_turn _ _ _ _
  rw [e] at s
  grind
/-- a quarter more. -/
theorem CS_more {y : Rat} (h : ab y ≤ 6) : cnr (CS (y + hp) - CS y * (⟨0, 1⟩ : Cq)) ≤ tw 102 := by
  have hs := hp_size
  have hb : ab hp ≤ 8 := by rw [ab_pos hs.1]; exact Rat.le_trans hs.2.1 (by decide +kernel)
  have a := CS_add (x := y) (y := hp) (Rat.le_trans h (by decide +kernel)) hb
  have l := (CS_len (y := y) (Rat.le_trans h (by decide +kernel))).2
  exact Rat.le_trans (turn_join a CS_hp l) (by decide +kernel)
end Go.Proofs.Ytcfkhhnkboealaa
namespace Go.Proofs.Ytcfkhhnkboealaa
open Go.RowKit
set_option linter.unusedVariables false
set_option linter.unusedSimpArgs false
set_option maxRecDepth 100000
set_option maxHeartbeats 4000000
open Turns Sizes
open Cs (cnr)
/-- a constant by its fraction. -/
theorem vfrac {w N D : Nat} (h : w < 9218868437227405312) (hD : 0 < D) (e : mval w * D = N * U) : V w ((N : Rat) / (D : Rat)) := by
  have hv := V.pos h
  have e2 : (mval w : Rat) * (D : Rat) = (N : Rat) * (U : Rat) := by rw [← cast_mul, e, cast_mul]
  have hDp : (D : Rat) ≠ 0 := by
    have := cast_le.2 (show 1 ≤ D from hD)
    have e1 : ((1 : Nat) : Rat) = 1 := rfl
    grind
  have hU := UQ_ne
  have h1 := div_self_mul (mval w : Rat) hU
  have h2 := div_self_mul (N : Rat) hDp
  have : (mval w : Rat) / (U : Rat) = (N : Rat) / (D : Rat) := by
    have h3 : ((mval w : Rat) / (U : Rat) - (N : Rat) / (D : Rat)) * ((U : Rat) * (D : Rat)) = 0 := by grind
    have h4 : (U : Rat) * (D : Rat) ≠ 0 := by grind
    grind
  rwa [this] at hv
def P0 : Rat := ((1686629713 : Nat) : Rat) / ((1073741824 : Nat) : Rat)
def P1 : Rat := ((2242054355 : Nat) : Rat) / ((36893488147419103232 : Nat) : Rat)
def P2 : Rat := ((160220439 : Nat) : Rat) / ((79228162514264337593543950336 : Nat) : Rat)
theorem P_sum : ab (hp - (P0 + P1 + P2)) ≤ tw 103 ∧ 0 ≤ P0 ∧ P0 ≤ 1571 / 1000 ∧ 0 ≤ P1 ∧ P1 ≤ 1 / 10000000000 ∧ 0 ≤ P2 ∧ P2 ≤ 1 / 10000000000 := by decide +kernel
theorem V.P0 : V 4609753056924401664 P0 ∧ ∃ K, mval (rung 4609753056924401664) = 1686629713 * 2 ^ K := by
  refine ⟨vfrac (by decide) (by decide) (by decide +kernel), ?_⟩
  exact ⟨1044, by decide +kernel⟩
theorem V.P1 : V 4454258360616747008 P1 ∧ ∃ K, mval (rung 4454258360616747008) = 2242054355 * 2 ^ K := by
  refine ⟨vfrac (by decide) (by decide) (by decide +kernel), ?_⟩
  exact ⟨1009, by decide +kernel⟩
theorem V.P2 : V 4297306550709518336 P2 ∧ ∃ K, mval (rung 4297306550709518336) = 160220439 * 2 ^ K := by
  refine ⟨vfrac (by decide) (by decide) (by decide +kernel), ?_⟩
  exact ⟨978, by decide +kernel⟩
theorem one_piece : fmul 4607182418800017408 (piece 0) = 4609753056924401664 ∧ fmul 4607182418800017408 (piece 1) = 4454258360616747008 ∧ fmul 4607182418800017408 (piece 2) = 4297306550709518336 := by decide +kernel
/-- a difference, taken thrice. -/
theorem less_err {a N r1 r2 r3 : Rat} (hN : ab N ≤ 700000) (ha : ab (a - N * hp) ≤ 7856 / 10000) (h1 : ab (r1 - (a - N * P0)) ≤ uu * ab (a - N * P0)) (h2 : ab (r2 - (r1 - N * P1)) ≤ uu * ab (r1 - N * P1)) (h3 : ab (r3 - (r2 - N * P2)) ≤ uu * ab (r2 - N * P2)) : ab (r3 - (a - N * hp)) ≤ 5 / 2 * uu := by
  have hu : 0 < uu ∧ uu ≤ 1 / 1000000 := by decide +kernel
  obtain ⟨p, p0, p0', p1, p1', p2, p2'⟩ := P_sum
  have t : 700000 * tw 103 ≤ 1 / 1000 * uu := by decide +kernel
  obtain ⟨q, hq⟩ : ∃ q, q = hp - (P0 + P1 + P2) := ⟨_, rfl⟩
  rw [← hq] at p
  have n1 : ab (N * P1) ≤ 7 / 100000 := by
    rw [ab_mul, ab_pos p1]
    have := mul_mono (ab_nn N) hN p1 p1'
    grind
  have n2 : ab (N * P2) ≤ 7 / 100000 := by
    rw [ab_mul, ab_pos p2]
    have := mul_mono (ab_nn N) hN p2 p2'
    grind
  have nq : ab (N * q) ≤ 1 / 1000 * uu := by
    rw [ab_mul]
    have := mul_mono (ab_nn N) hN (ab_nn q) p
    exact Rat.le_trans this t
  have e : a - N * hp = a - N * P0 - N * P1 - N * P2 - N * q := by rw [hq]; grind
  rw [e] at ha ⊢
  generalize N * P0 = A0 at *
  generalize N * P1 = A1 at *
  generalize N * P2 = A2 at *
  generalize N * q = A3 at *
  clear hN e hq p p0 p0' p1 p1' p2 p2' t
  have b1 : ab (a - A0) ≤ 7859 / 10000 := by
    have x := ab_add (a - A0 - A1 - A2 - A3) (A1 + A2 + A3)
    rw [show a - A0 - A1 - A2 - A3 + (A1 + A2 + A3) = a - A0 by grind] at x
    have y := ab_add (A1 + A2) A3
    have z := ab_add A1 A2
    grind
  have k1 := Rat.mul_le_mul_of_nonneg_left b1 (Rat.le_of_lt hu.1)
  have c1 : ab (r1 - A1) ≤ 7861 / 10000 := by
    have x := ab_add (r1 - (a - A0)) (a - A0 - A1)
    rw [show r1 - (a - A0) + (a - A0 - A1) = r1 - A1 by grind] at x
    have y := ab_sub (a - A0) A1
    grind
  have k2 := Rat.mul_le_mul_of_nonneg_left c1 (Rat.le_of_lt hu.1)
  have c2 : ab (r2 - A2) ≤ 7863 / 10000 := by
    have x := ab_add (r2 - (r1 - A1)) (r1 - A1 - A2)
    rw [show r2 - (r1 - A1) + (r1 - A1 - A2) = r2 - A2 by grind] at x
    have y := ab_sub (r1 - A1) A2
    grind
  have k3 := Rat.mul_le_mul_of_nonneg_left c2 (Rat.le_of_lt hu.1)
  have x1 := ab_add (r3 - (r2 - A2)) (r2 - (r1 - A1))
  have x2 := ab_add (r3 - (r2 - A2) + (r2 - (r1 - A1))) (r1 - (a - A0))
  have x3 := ab_add (r3 - (r2 - A2) + (r2 - (r1 - A1)) + (r1 - (a - A0))) A3
  rw [show r3 - (r2 - A2) + (r2 - (r1 - A1)) + (r1 - (a - A0)) + A3 = r3 - (a - A0 - A1 - A2 - A3) by grind] at x3
  grind
def cQ : Rat := ((5734161139222659 : Nat) : Rat) / ((9007199254740992 : Nat) : Rat)
theorem V.cQ : V 4603909380684499075 cQ := vfrac (by decide) (by decide) (by decide +kernel)
theorem cQ_hp : ab (1 - cQ * hp) ≤ 2 * uu ∧ 0 ≤ cQ ∧ cQ ≤ 637 / 1000 := by decide +kernel
/-- how far the rest lies. -/
theorem rest_far {a p N : Rat} (ha : ab a ≤ 1048576) (hp1 : ab (p - a * cQ) ≤ uu * ab (a * cQ) + et) (hn : ab (p - N) ≤ 1 / 2) : ab (a - N * hp) ≤ 7856 / 10000 ∧ ab N ≤ 700000 ∧ ab p ≤ 700000 := by
  have hu : 0 < uu ∧ uu ≤ 1 / 1000000000000000 := by decide +kernel
  have het := et_uu
  obtain ⟨c1, c2, c3⟩ := cQ_hp
  obtain ⟨h0, h1, h2⟩ := hp_size
  have h3 : hp ≤ 157080 / 100000 := by decide +kernel
  have ac : ab (a * cQ) ≤ 668000 := by
    rw [ab_mul, ab_pos c2]
    have := mul_mono (ab_nn a) ha c2 c3
    grind
  have k := Rat.mul_le_mul_of_nonneg_left ac (Rat.le_of_lt hu.1)
  have pe : ab (p - a * cQ) ≤ 1 / 1000000000 := by grind
  have e : a - N * hp = ((a * cQ - p) + (p - N)) * hp + a * (1 - cQ * hp) := by grind
  have a1 := ab_add (a * cQ - p) (p - N)
  rw [ab_comm (a * cQ) p] at a1
  have b1 : ab (((a * cQ - p) + (p - N)) * hp) ≤ (1 / 1000000000 + 1 / 2) * (157080 / 100000) := by
    rw [ab_mul, ab_pos h0]
    exact mul_mono (ab_nn _) (by grind) h0 h3
  have b2 : ab (a * (1 - cQ * hp)) ≤ 1048576 * (2 * uu) := by
    rw [ab_mul]
    exact mul_mono (ab_nn a) ha (ab_nn _) c1
  refine ⟨?_, ?_, ?_⟩
  · rw [e]
    have := ab_add (((a * cQ - p) + (p - N)) * hp) (a * (1 - cQ * hp))
    clear e
    grind
  · have x1 := ab_sub p (p - N)
    rw [show p - (p - N) = N by grind] at x1
    have x2 := ab_add (p - a * cQ) (a * cQ)
    rw [show p - a * cQ + a * cQ = p by grind] at x2
    grind
  · have x2 := ab_add (p - a * cQ) (a * cQ)
    rw [show p - a * cQ + a * cQ = p by grind] at x2
    grind
/-- THE REST AND THE QUARTERS. -/
theorem quarter_val {f : Nat} {a : Rat} (hf : V f a) (ha : ab a ≤ 1048576) (hfit : fit f = true) : ∃ (n : Int) (y : Rat), V (quarterX f) y ∧ quarterN f = n % 4 ∧ ab (y - (a - (n : Rat) * hp)) ≤ 5 / 2 * uu ∧ ab (a - (n : Rat) * hp) ≤ 7856 / 10000 ∧ ab (n : Rat) ≤ 700000 := by
  have hB := BG_big
  have hu : 0 < uu ∧ uu ≤ 1 / 1000000000000000 := by decide +kernel
  obtain ⟨c1, c2, c3⟩ := cQ_hp
  have ac : ab (a * cQ) ≤ 668000 := by
    rw [ab_mul, ab_pos c2]
    have := mul_mono (ab_nn a) ha c2 c3
    grind
  obtain ⟨p, hp1, r1⟩ := hf.mul V.cQ (Rat.le_trans ac (Rat.le_trans (by decide +kernel) hB))
  have pb : ab p ≤ 1125899906842624 := Rat.le_trans (rest_far (N := p) ha r1 (by rw [show p - p = 0 by grind, show ab (0 : Rat) = 0 by decide +kernel]; decide +kernel)).2.2 (by decide +kernel)
  obtain ⟨n, hn, w1, w2⟩ := hp1.whole pb
  obtain ⟨z1, z2, z3⟩ := rest_far ha r1 w2
  have hM : V (quarterM f) (n : Rat) := hn
  have hW : wInt (quarterM f) = n := w1
  refine ⟨n, ?_⟩
  unfold quarterX quarterN
  rw [hfit, if_pos rfl, if_pos rfl, feq_zero (fin_notN hM.fin)]
  by_cases hz : rung (quarterM f) = 0
  · have hn0 : n = 0 := by
      have hs := hM.size
      rw [hz, mval_zero] at hs
      have e : ((0 : Nat) : Rat) / (U : Rat) = 0 := by
        have a := div_self_mul ((0 : Nat) : Rat) UQ_ne
        have := UQ_ne
        have e0 : ((0 : Nat) : Rat) = 0 := rfl
        rw [e0] at a ⊢
        grind
      rw [e] at hs
      have h0 : (n : Rat) = 0 := by
        generalize (n : Rat) = N at *
        have := ab_of N
        clear hM hn w1 w2 z1 z2 z3
        grind
      have h1 : ((n : Int) : Rat) = ((0 : Int) : Rat) := h0
      exact_mod_cast h1
    subst hn0
    have e0 : ((0 : Int) : Rat) = 0 := rfl
    rw [e0] at z1 z2 ⊢
    rw [decide_eq_true hz, if_pos rfl, if_pos rfl]
    refine ⟨a, hf, rfl, ?_, z1, z2⟩
    rw [show a - (a - 0 * hp) = 0 by grind, show ab (0 : Rat) = 0 by decide +kernel]
    decide +kernel
  · rw [decide_eq_false hz, if_neg (by decide), if_neg (by decide), hW]
    have nb : n.natAbs ≤ 700000 := by
      have z2' := ab_le.1 z2
      have h1 : ((-700000 : Int) : Rat) ≤ (n : Rat) := by
        have e : ((-700000 : Int) : Rat) = -700000 := by decide +kernel
        rw [e]; exact z2'.1
      have h2 : (n : Rat) ≤ ((700000 : Int) : Rat) := by
        have e : ((700000 : Int) : Rat) = 700000 := by decide +kernel
        rw [e]; exact z2'.2
      have := cast_le'.1 h1
      have := cast_le'.1 h2
      omega
    obtain ⟨v0, K0, k0⟩ := V.P0
    obtain ⟨v1, K1, k1⟩ := V.P1
    obtain ⟨v2, K2, k2⟩ := V.P2
    obtain ⟨_, p0, p0', p1, p1', p2, p2'⟩ := P_sum
    have nbnd : ∀ q : Rat, 0 ≤ q → q ≤ 1571 / 1000 → ab ((n : Rat) * q) ≤ 2000000 := by
      intro q q0 q1
      rw [ab_mul, ab_pos q0]
      exact Rat.le_trans (mul_mono (ab_nn _) z2 q0 q1) (by decide +kernel)
    have B2 : (100000000 : Rat) ≤ BG := Rat.le_trans (by decide +kernel) hB
    have m0 := V.mul_whole hM v0 k0 (by omega) (Rat.le_trans (nbnd P0 p0 p0') (Rat.le_trans (by decide +kernel) hB))
    have m1 := V.mul_whole hM v1 k1 (by omega) (Rat.le_trans (nbnd P1 p1 (Rat.le_trans p1' (by decide +kernel))) (Rat.le_trans (by decide +kernel) hB))
    have m2 := V.mul_whole hM v2 k2 (by omega) (Rat.le_trans (nbnd P2 p2 (Rat.le_trans p2' (by decide +kernel))) (Rat.le_trans (by decide +kernel) hB))
    have n0 := nbnd P0 p0 p0'
    have n1 := nbnd P1 p1 (Rat.le_trans p1' (by decide +kernel))
    have n2 := nbnd P2 p2 (Rat.le_trans p2' (by decide +kernel))
    have sub : ∀ {F G : Nat} {x y : Rat}, V F x → V G y → ab x ≤ 10000000 → ab y ≤ 2000000 → ∃ r, V (fsub F G) r ∧ ab (r - (x - y)) ≤ uu * ab (x - y) ∧ ab r ≤ ab x + ab y + 1 := by
      intro F G x y hF hG hx hy
      have b := ab_sub x y
      obtain ⟨r, hr, r1⟩ := hF.sub hG (by grind)
      refine ⟨r, hr, r1, ?_⟩
      have x1 := ab_add (r - (x - y)) (x - y)
      rw [show r - (x - y) + (x - y) = r by grind] at x1
      have k := Rat.mul_le_mul_of_nonneg_left (show ab (x - y) ≤ 12000000 by grind) (Rat.le_of_lt hu.1)
      grind
    have e : lessF f (quarterM f) 4607182418800017408 = fsub (fsub (fsub f (fmul (quarterM f) 4609753056924401664)) (fmul (quarterM f) 4454258360616747008)) (fmul (quarterM f) 4297306550709518336) := by
      show fsub (fsub (fsub f (fmul (quarterM f) (fmul 4607182418800017408 (piece 0)))) (fmul (quarterM f) (fmul 4607182418800017408 (piece 1)))) (fmul (quarterM f) (fmul 4607182418800017408 (piece 2))) = _
      rw [one_piece.1, one_piece.2.1, one_piece.2.2]
    rw [e]
    generalize (n : Rat) = N at *
    obtain ⟨r, hr, q1, q2⟩ := sub hf m0 (Rat.le_trans ha (by decide +kernel)) n0
    obtain ⟨s, hs, q3, q4⟩ := sub hr m1 (by grind) n1
    obtain ⟨t, ht, q5, q6⟩ := sub hs m2 (by grind) n2
    exact ⟨t, ht, rfl, less_err z2 z1 q1 q3 q5, z1, z2⟩
end Go.Proofs.Ytcfkhhnkboealaa
namespace Go.Proofs.Ytcfkhhnkboealaa
open Go.RowKit
set_option linter.unusedVariables false
set_option linter.unusedSimpArgs false
set_option maxRecDepth 100000
set_option maxHeartbeats 4000000
open Turns Sizes
open Cs (cnr)
/-- the turn by a little more. -/
theorem CS_near {x d : Rat} (hx : ab x ≤ 6) (hd : ab d ≤ 1 / 1000000) : ab ((CS (x + d)).re - (CS x).re) ≤ 1001 / 1000 * ab d + tw 439 ∧ ab ((CS (x + d)).im - (CS x).im) ≤ 1001 / 1000 * ab d + tw 439 := by
  have a := CS_add (x := x) (y := d) (by grind) (by grind)
  have s := CS_small (d := d) (by grind)
  obtain ⟨l1, l2⟩ := CS_len (y := x) (by grind)
  have m := Cs.mul (CS x) (CS d - (1 + ig d))
  have m2 := mul_mono (Cs.nn (CS x)) l2 (Cs.nn _) s
  have dn := ab_nn d
  have dd : d * d = ab d * ab d := by
    rcases (show 0 ≤ d ∨ d < 0 by grind) with q | q
    · rw [ab_pos q]
    · have : ab d = -d := by unfold ab; grind
      rw [this]; grind
  have dd2 : ab d * ab d ≤ 1 / 1000000 * ab d := Rat.mul_le_mul_of_nonneg_right hd dn
  have su := Cs.add (-(CS x * CS d - CS (x + d))) (CS x * (CS d - (1 + ig d)))
  rw [Cs.neg] at su
  have e : -(CS x * CS d - CS (x + d)) + CS x * (CS d - (1 + ig d)) = CS (x + d) - CS x * (1 + ig d) := cq_turn _ _ _ _
  rw [e] at su
  have t : tw 440 ≤ 1 / 2 * tw 439 := by decide +kernel
  have t4 := tw_pos 439
  have h : cnr (CS (x + d) - CS x * (1 + ig d)) ≤ tw 440 + 21 / 10 * (1 / 1000000 * ab d) := by
    rw [dd] at m2
    grind
  have h2 : ab ((CS (x + d)).re - ((CS x).re * (1 + 0) - (CS x).im * (0 + d))) + ab ((CS (x + d)).im - ((CS x).re * (0 + d) + (CS x).im * (1 + 0))) ≤ tw 440 + 21 / 10 * (1 / 1000000 * ab d) := h
  have sq : ∀ y : Rat, 0 ≤ y * y := by
    intro y
    rcases (show 0 ≤ y ∨ y < 0 by grind) with q | q
    · exact Rat.mul_nonneg q q
    · have := Rat.mul_nonneg (show 0 ≤ -y by grind) (show 0 ≤ -y by grind)
      grind
  have one : ∀ y z : Rat, ab (y * y + z * z - 1) ≤ tw 440 → ab y ≤ 10001 / 10000 := by
    intro y z h
    have u := (ab_le.1 h).2
    have v := sq z
    have t4 : tw 440 ≤ 1 / 1000000 := by decide +kernel
    rcases (show ab y ≤ 10001 / 10000 ∨ 10001 / 10000 < ab y by grind) with q | q
    · exact q
    · exfalso
      have w := mul_mono (by decide +kernel : (0 : Rat) ≤ 10001 / 10000) (Rat.le_of_lt q) (by decide +kernel : (0 : Rat) ≤ 10001 / 10000) (Rat.le_of_lt q)
      have e2 : y * y = ab y * ab y := by
        rcases (show 0 ≤ y ∨ y < 0 by grind) with q | q
        · rw [ab_pos q]
        · have : ab y = -y := by unfold ab; grind
          rw [this]; grind
      grind
  have r1 := one (CS x).re (CS x).im l1
  have i1 := one (CS x).im (CS x).re (by rw [show (CS x).im * (CS x).im + (CS x).re * (CS x).re - 1 = (CS x).re * (CS x).re + (CS x).im * (CS x).im - 1 by grind]; exact l1)
  generalize (CS (x + d)).re = R at *
  generalize (CS (x + d)).im = I at *
  generalize (CS x).re = r at *
  generalize (CS x).im = i at *
  have k1 : ab (i * d) ≤ 10001 / 10000 * ab d := by rw [ab_mul]; exact Rat.mul_le_mul_of_nonneg_right i1 dn
  have k2 : ab (r * d) ≤ 10001 / 10000 * ab d := by rw [ab_mul]; exact Rat.mul_le_mul_of_nonneg_right r1 dn
  have n1 := ab_nn (R - (r * (1 + 0) - i * (0 + d)))
  have n2 := ab_nn (I - (r * (0 + d) + i * (1 + 0)))
  constructor
  · have x1 := ab_sub (R - (r * (1 + 0) - i * (0 + d))) (i * d)
    rw [show R - (r * (1 + 0) - i * (0 + d)) - i * d = R - r by grind] at x1
    grind
  · have x1 := ab_add (I - (r * (0 + d) + i * (1 + 0))) (r * d)
    rw [show I - (r * (0 + d) + i * (1 + 0)) + r * d = I - i by grind] at x1
    grind
/-- turned by whole quarters. -/
def rot (k : Int) (c s : Rat) : Rat × Rat := if k = 0 then (c, s) else if k = 1 then (-s, c) else if k = 2 then (-c, -s) else (s, -c)
/-- SINE AND COSINE of a fit float: those of the rest, turned. -/
theorem turn_val {f : Nat} {a : Rat} (hf : V f a) (ha : ab a ≤ 1048576) (hfit : fit f = true) : ∃ (n : Int) (c s : Rat), ab (a - (n : Rat) * hp) ≤ 7856 / 10000 ∧ ab (n : Rat) ≤ 700000 ∧ ab (c - (CS (a - (n : Rat) * hp)).re) ≤ 6 * uu ∧ ab (s - (CS (a - (n : Rat) * hp)).im) ≤ 6 * uu ∧ V (turnC f) (rot (n % 4) c s).1 ∧ V (turnS f) (rot (n % 4) c s).2 := by
  obtain ⟨n, y, h1, h2, h3, h4, h5⟩ := quarter_val hf ha hfit
  have hu : 0 < uu ∧ uu ≤ 1 / 1000000000 := by decide +kernel
  obtain ⟨x, hx⟩ : ∃ x, x = a - (n : Rat) * hp := ⟨_, rfl⟩
  rw [← hx] at h3 h4
  have yb : ab y ≤ 8 / 10 := by
    have := ab_add (y - x) x
    rw [show y - x + x = y by grind] at this
    clear hx h5
    grind
  obtain ⟨s, c, k1, k2, k3, _, k5⟩ := steps_val h1 yb
  have near := CS_near (x := x) (d := y - x) (by clear hx h5; grind) (by clear hx h5; grind)
  rw [show x + (y - x) = y by grind] at near
  have het := et_uu
  have t : tw 65 ≤ 1 / 1000 * uu ∧ tw 439 ≤ 1 / 1000 * uu := by decide +kernel
  have ky := Rat.mul_le_mul_of_nonneg_left yb (Rat.le_of_lt hu.1)
  refine ⟨n, c, s, by rw [← hx]; exact h4, h5, ?_, ?_, ?_, ?_⟩
  · rw [← hx]
    have := ab_tri c (CS y).re (CS x).re
    have := near.1
    clear hx h5
    grind
  · rw [← hx]
    have := ab_tri s (CS y).im (CS x).im
    have := near.2
    clear hx h5
    grind
  · unfold turnC rot
    rw [h2]
    by_cases a0 : n % 4 = 0
    · rw [if_pos a0, if_pos a0]; exact k2
    · rw [if_neg a0, if_neg a0]
      by_cases a1 : n % 4 = 1
      · rw [if_pos a1, if_pos a1]; exact k1.neg
      · rw [if_neg a1, if_neg a1]
        by_cases a2 : n % 4 = 2
        · rw [if_pos a2, if_pos a2]; exact k2.neg
        · rw [if_neg a2, if_neg a2]; exact k1
  · unfold turnS rot
    rw [h2]
    by_cases a0 : n % 4 = 0
    · rw [if_pos a0, if_pos a0]; exact k1
    · rw [if_neg a0, if_neg a0]
      by_cases a1 : n % 4 = 1
      · rw [if_pos a1, if_pos a1]; exact k2
      · rw [if_neg a1, if_neg a1]
        by_cases a2 : n % 4 = 2
        · rw [if_pos a2, if_pos a2]; exact k1.neg
        · rw [if_neg a2, if_neg a2]; exact k2.neg
end Go.Proofs.Ytcfkhhnkboealaa
