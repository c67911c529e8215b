/- The exponential and the logarithm by value (plain parts, 1). No text of the program. -/
import Derived.Test.YtcfkhhnkboealaaCk
namespace Go.Proofs.Ytcfkhhnkboealaa
open Go.RowKit
set_option linter.unusedVariables false
set_option linter.unusedSimpArgs false
set_option maxRecDepth 100000
set_option maxHeartbeats 4000000
open Turns Sizes
theorem wd_no (r : Nat) : wd false r = r := by unfold wd; exact if_neg (by decide)
theorem lt_of_le_no {a b c : Rat} (h : a ≤ b) (k : b < c) : a < c := by grind
theorem pw_lt_no {a b : Int} (h : pw a < pw b) : a < b := by
  rcases Int.lt_or_le a b with k | k
  · exact k
  · have := pw_mono k; grind
theorem sqr_mono {x y : Rat} (h0 : 0 ≤ x) (h : x ≤ y) : ∀ k, 0 ≤ sqr k x ∧ sqr k x ≤ sqr k y
  | 0 => ⟨h0, h⟩
  | k + 1 => by
    have ih := sqr_mono h0 h k
    exact ⟨mul_nn ih.1 ih.1, mul_mono ih.1 ih.2 ih.1 ih.2⟩
/-- the gap behind a float. -/
def gapq (r : Nat) : Rat := ((mval (r + 1) : Rat) - (mval r : Rat)) / (U : Rat)
theorem mval_stepU (r : Nat) : mval (r + 1) = mval r + 2 ^ (r / 4503599627370496 - 1) := by
  by_cases h : r < 4503599627370496
  · have e1 := mval_plc (L := 0) (q := r) (by omega) (.inl rfl)
    have e2 := mval_plc (L := 0) (q := r + 1) (by omega) (.inl rfl)
    simp only [Nat.zero_mul, Nat.zero_add, Nat.pow_zero, Nat.mul_one] at e1 e2
    rw [e1, e2, show r / 4503599627370496 - 1 = 0 by omega]
  · obtain ⟨L, hL⟩ : ∃ L, L = r / 4503599627370496 - 1 := ⟨_, rfl⟩
    obtain ⟨q, hq⟩ : ∃ q, q = r - L * 4503599627370496 := ⟨_, rfl⟩
    have hr : r = L * 4503599627370496 + q := by omega
    have b1 : 4503599627370496 ≤ q := by omega
    have b2 : q < 9007199254740992 := by omega
    have e1 := mval_plc (L := L) (q := q) (by omega) (.inr b1)
    have e2 := mval_plc (L := L) (q := q + 1) (by omega) (.inr (by omega))
    rw [← hL]
    have e3 : r + 1 = L * 4503599627370496 + (q + 1) := by omega
    rw [e3, e2, hr, e1, Nat.add_mul, Nat.one_mul]
theorem gap_eq (r : Nat) : gapq r = ((2 ^ (r / 4503599627370496 - 1) : Nat) : Rat) / (U : Rat) := by
  unfold gapq
  rw [mval_stepU]
  have : ((mval r + 2 ^ (r / 4503599627370496 - 1) : Nat) : Rat) = (mval r : Rat) + ((2 ^ (r / 4503599627370496 - 1) : Nat) : Rat) := by grind
  rw [this]
  congr 1; grind
theorem gap_mono {r s : Nat} (h : r ≤ s) : gapq r ≤ gapq s := by
  have hU := UQ_pos
  rw [gap_eq, gap_eq, div_le hU, div_self_mul _ UQ_ne]
  exact cast_le.2 (Nat.pow_le_pow_right (by decide) (by omega))
theorem gap_pos (r : Nat) : 0 < gapq r := by
  have h := gap_mono (Nat.zero_le r)
  have e : gapq 0 = 1 / (U : Rat) := by rw [gap_eq]; rfl
  have h2 : 0 < 1 / (U : Rat) := by
    have hU := UQ_pos
    have e9 := div_self_mul 1 UQ_ne
    rcases Rat.le_total (a := 1 / (U : Rat)) (b := 0) with k | k
    · have := Rat.mul_le_mul_of_nonneg_right k (Rat.le_of_lt hU); grind
    · by_cases e0 : 1 / (U : Rat) = 0
      · rw [e0] at e9; grind
      · grind
  grind
theorem BG_pw' : BG = pw (kBG : Int) := by rw [pw_nat]; rfl
theorem gap_pw (r : Nat) : gapq r = pw (((r / 4503599627370496 - 1 : Nat) : Int) - (e1 : Int)) := by
  rw [gap_eq, pw_sub, U_def]
theorem posW {f : Nat} {a : Rat} (hf : V f a) (h : 0 < a) : f < 9218868437227405312 := by
  have h1 := fin_rung hf.fin
  have hs : sgn f = false := by
    cases e : sgn f
    · rfl
    · have e1 := hf.form
      rw [e] at e1
      have e2 := (le_div (a := 0) (b := (mval (rung f) : Rat)) UQ_pos).2 (by rw [Rat.zero_mul]; exact cast_nn _)
      simp only [sq, if_true] at e1
      grind
  have hl := hf.lt
  unfold sgn at hs
  unfold rung at h1
  simp at hs
  omega
/-- numbers on a grid. -/
theorem grid_up {z : Int} {K L : Nat} {x : Rat} (h : x = (z : Rat) * pw (-(K : Int))) (k : K ≤ L) : ∃ t : Int, x = (t : Rat) * pw (-(L : Int)) := by
  refine ⟨z * ((2 ^ (L - K) : Nat) : Int), ?_⟩
  have e1 : ((z * ((2 ^ (L - K) : Nat) : Int) : Int) : Rat) = (z : Rat) * ((2 ^ (L - K) : Nat) : Rat) := by
    rw [Rat.intCast_mul]; rfl
  have e2 : pw (-(K : Int)) = ((2 ^ (L - K) : Nat) : Rat) * pw (-(L : Int)) := by
    rw [← pw_nat, ← pw_add]; congr 1; omega
  rw [h, e1, e2, Rat.mul_assoc]
theorem sq_mulr (b : Bool) (x y : Rat) : sq b (x * y) = sq b x * y := by cases b <;> simp [sq] <;> grind
theorem one_U (m : Nat) : (m : Rat) / (U : Rat) = (m : Rat) * pw (-((1074 : Nat) : Int)) := by
  obtain ⟨k, hk⟩ : ∃ k : Nat, k = 1074 := ⟨_, rfl⟩
  have h := pw_negnat k
  have kk : (U : Rat) = ((2 ^ k : Nat) : Rat) := by rw [hk, U_def, e1_eq]
  have ku := UQ_ne
  rw [← kk] at h
  rw [← hk]
  have h2 := div_self_mul (m : Rat) UQ_ne
  have : ((m : Rat) / (U : Rat) - (m : Rat) * pw (-(k : Int))) * (U : Rat) = 0 := by grind
  grind
theorem wd_f (r : Nat) : wd false r = r := by unfold wd; exact if_neg (by decide)
def cH : Nat := 4604418534311723008
def cLo : Nat := 4461442080421002358
def cTr : Nat := 4609176140021203710
theorem V.cH : V cH (5954088942 / 8589934592) ∧ (∃ K, mval (rung Proofs.Ytcfkhhnkboealaa.cH) = 2977044471 * 2 ^ K) := by
  have h := V.pos (r := 4604418534311723008) (by decide)
  have e : mval 4604418534311723008 * 8589934592 = 5954088942 * U := by decide +kernel
  have e2 : ((mval 4604418534311723008 * 8589934592 : Nat) : Rat) = ((5954088942 * U : Nat) : Rat) := by rw [e]
  rw [cast_mul, cast_mul] at e2
  have e3 : ((8589934592 : Nat) : Rat) = 8589934592 := rfl
  have e4 : ((5954088942 : Nat) : Rat) = 5954088942 := rfl
  rw [e3, e4] at e2
  have hne := UQ_ne
  refine ⟨?_, 1042, by decide +kernel⟩
  have e5 : (mval 4604418534311723008 : Rat) / (U : Rat) = 5954088942 / 8589934592 := by grind
  rw [e5] at h; exact h
theorem V.cLo : V cLo (7382048951581814 / 38685626227668133590597632) := by
  have h := V.pos (r := 4461442080421002358) (by decide)
  have e : mval 4461442080421002358 * 38685626227668133590597632 = 7382048951581814 * U := by decide +kernel
  have e2 : ((mval 4461442080421002358 * 38685626227668133590597632 : Nat) : Rat) = ((7382048951581814 * U : Nat) : Rat) := by rw [e]
  rw [cast_mul, cast_mul] at e2
  have e3 : ((38685626227668133590597632 : Nat) : Rat) = 38685626227668133590597632 := rfl
  have e4 : ((7382048951581814 : Nat) : Rat) = 7382048951581814 := rfl
  rw [e3, e4] at e2
  have hne := UQ_ne
  have e5 : (mval 4461442080421002358 : Rat) / (U : Rat) = 7382048951581814 / 38685626227668133590597632 := by grind
  rw [e5] at h; exact h
theorem V.cTr : V cTr (6497320848556798 / 4503599627370496) := by
  have h := V.pos (r := 4609176140021203710) (by decide)
  have e : mval 4609176140021203710 * 4503599627370496 = 6497320848556798 * U := by decide +kernel
  have e2 : ((mval 4609176140021203710 * 4503599627370496 : Nat) : Rat) = ((6497320848556798 * U : Nat) : Rat) := by rw [e]
  rw [cast_mul, cast_mul] at e2
  have e3 : ((4503599627370496 : Nat) : Rat) = 4503599627370496 := rfl
  have e4 : ((6497320848556798 : Nat) : Rat) = 6497320848556798 := rfl
  rw [e3, e4] at e2
  have hne := UQ_ne
  have e5 : (mval 4609176140021203710 : Rat) / (U : Rat) = 6497320848556798 / 4503599627370496 := by grind
  rw [e5] at h; exact h
theorem uuv : uu = 1 / 9007199254740992 := rfl
theorem etT : et ≤ 1 / 1606938044258990275541962092341162602522202993782792835301376 := et_tau
/-- THE REST: a number less whole logarithms of 2. -/
theorem exp_rest {f : Nat} {a : Rat} (hf : V f a) (ha : ab a ≤ 760) : ∃ (n : Int) (r : Rat), V (expN f) (n : Rat) ∧ wInt (expN f) = n ∧ -1100 ≤ n ∧ n ≤ 1100 ∧ V (expR f) r ∧ ab (a - (n : Rat) * L2) ≤ 3466 / 10000 ∧ ab (r - (a - (n : Rat) * L2)) ≤ 7 / 10 * uu := by
  have hB := BG_big
  have ht := etT
  have hT := V.cTr
  obtain ⟨hH, K, hK⟩ := V.cH
  have hL := V.cLo
  have tr : ab (6497320848556798 / 4503599627370496 : Rat) ≤ 1443 / 1000 := by decide +kernel
  have b1 : ab (a * (6497320848556798 / 4503599627370496)) ≤ 1097 := by
    rw [ab_mul]; have := mul_mono (ab_nn a) ha (ab_nn _) tr; grind
  obtain ⟨p, hp, e1⟩ := hf.mul hT (by grind)
  have hpb : ab p ≤ 1098 := by
    have h := ab_add (p - a * (6497320848556798 / 4503599627370496)) (a * (6497320848556798 / 4503599627370496))
    rw [show p - a * (6497320848556798 / 4503599627370496) + a * (6497320848556798 / 4503599627370496) = p by grind] at h
    rw [uuv] at e1
    grind
  obtain ⟨n, hn, hnw, e2⟩ := hp.whole (by grind)
  have hnN : V (expN f) (n : Rat) := hn
  have hnb : ab (n : Rat) ≤ 1099 := by
    have h := ab_add ((n : Rat) - p) p
    rw [show (n : Rat) - p + p = (n : Rat) by grind, ab_comm] at h
    grind
  have hni : -1100 ≤ n ∧ n ≤ 1100 := by
    rw [ab_le] at hnb
    constructor
    · apply cast_le'.1
      have : ((-1100 : Int) : Rat) = -1100 := rfl
      rw [this]; grind
    · apply cast_le'.1
      have : ((1100 : Int) : Rat) = 1100 := rfl
      rw [this]; grind
  have pb : ab ((n : Rat) * (5954088942 / 8589934592)) ≤ 1000 := by
    rw [ab_mul]
    have := mul_mono (ab_nn _) hnb (ab_nn _) (show ab (5954088942 / 8589934592 : Rat) ≤ 7 / 10 by decide +kernel)
    grind
  have hnH : V (fmul (expN f) cH) ((n : Rat) * (5954088942 / 8589934592)) := V.mul_whole hnN hH hK (by
    have : n.natAbs ≤ 1100 := by omega
    have := Nat.mul_le_mul_right 2977044471 this
    omega) (by grind)
  -- the rest, true
  obtain ⟨q, hq⟩ : ∃ q, q = a - (n : Rat) * L2 := ⟨_, rfl⟩
  have hqn : ab q ≤ 3466 / 10000 := by
    -- a = p' / Tr
    have k1 : a * (6497320848556798 / 4503599627370496) - (n : Rat) = (a * (6497320848556798 / 4503599627370496) - p) + (p - (n : Rat)) := by grind
    have k2 : ab (a * (6497320848556798 / 4503599627370496) - (n : Rat)) ≤ 1 / 2 + 1 / 1000000 := by
      rw [k1]
      have := ab_add (a * (6497320848556798 / 4503599627370496) - p) (p - (n : Rat))
      rw [ab_comm] at e1
      rw [uuv] at e1
      grind
    have k3 : q = (a * (6497320848556798 / 4503599627370496) - (n : Rat)) * L2 + a * (1 - 6497320848556798 / 4503599627370496 * L2) := by rw [hq]; grind
    have k4 : ab (1 - 6497320848556798 / 4503599627370496 * L2) ≤ 1 / 1000000000 := by decide +kernel
    have k5 : ab L2 ≤ 69315 / 100000 := by decide +kernel
    have m1 : ab ((a * (6497320848556798 / 4503599627370496) - (n : Rat)) * L2) ≤ (1 / 2 + 1 / 1000000) * (69315 / 100000) := by
      rw [ab_mul]; exact mul_mono (ab_nn _) k2 (ab_nn _) k5
    have m2 : ab (a * (1 - 6497320848556798 / 4503599627370496 * L2)) ≤ 760 * (1 / 1000000000) := by
      rw [ab_mul]; exact mul_mono (ab_nn _) ha (ab_nn _) k4
    have m3 := ab_add ((a * (6497320848556798 / 4503599627370496) - (n : Rat)) * L2) (a * (1 - 6497320848556798 / 4503599627370496 * L2))
    rw [k3]
    grind
  have nl : ab ((n : Rat) * (7382048951581814 / 38685626227668133590597632)) ≤ 1 / 1000000 := by
    rw [ab_mul]
    have := mul_mono (ab_nn _) hnb (ab_nn _) (show ab (7382048951581814 / 38685626227668133590597632 : Rat) ≤ 1 / 5000000000 by decide +kernel)
    grind
  have s0 : a - (n : Rat) * (5954088942 / 8589934592) = q + (n : Rat) * (7382048951581814 / 38685626227668133590597632) := by rw [hq]; unfold L2; grind
  have s0b : ab (a - (n : Rat) * (5954088942 / 8589934592)) ≤ 34661 / 100000 := by
    rw [s0]; have := ab_add q ((n : Rat) * (7382048951581814 / 38685626227668133590597632)); grind
  obtain ⟨s, hs, e3⟩ := hf.sub hnH (by grind)
  obtain ⟨l, hl, e4⟩ := hnN.mul hL (by grind)
  have sl : ab (s - l) ≤ 3467 / 10000 := by
    have h1 : s - l = (s - (a - (n : Rat) * (5954088942 / 8589934592))) + q - (l - (n : Rat) * (7382048951581814 / 38685626227668133590597632)) := by rw [hq]; unfold L2; grind
    rw [h1]
    have h2 := ab_sub (s - (a - (n : Rat) * (5954088942 / 8589934592)) + q) (l - (n : Rat) * (7382048951581814 / 38685626227668133590597632))
    have h3 := ab_add (s - (a - (n : Rat) * (5954088942 / 8589934592))) q
    rw [uuv] at e3 e4
    grind
  obtain ⟨r, hr, e5⟩ := hs.sub hl (by grind)
  refine ⟨n, r, hnN, hnw, hni.1, hni.2, hr, by rw [← hq]; exact hqn, ?_⟩
  rw [← hq]
  have h1 : r - q = (r - (s - l)) + (s - (a - (n : Rat) * (5954088942 / 8589934592))) - (l - (n : Rat) * (7382048951581814 / 38685626227668133590597632)) := by rw [hq]; unfold L2; grind
  rw [h1]
  have h2 := ab_sub (r - (s - l) + (s - (a - (n : Rat) * (5954088942 / 8589934592)))) (l - (n : Rat) * (7382048951581814 / 38685626227668133590597632))
  have h3 := ab_add (r - (s - l)) (s - (a - (n : Rat) * (5954088942 / 8589934592)))
  rw [uuv] at *
  clear h1 s0 hB
  generalize ab (r - (s - l)) = z1 at *
  generalize ab (s - (a - (n : Rat) * (5954088942 / 8589934592))) = z2 at *
  generalize ab (l - (n : Rat) * (7382048951581814 / 38685626227668133590597632)) = z3 at *
  grind
/-- the rising sum, without rounding. -/
def hh (r : Rat) : Nat → Rat
  | 0 => 1
  | k + 1 => 1 + r * hh r k / ((13 - k : Nat) : Rat)
theorem hh_13 (r : Rat) : hh r 13 = TT r 13 := by
  simp only [hh, TT, sm, ee_rat, ee_zero]
  simp
  grind
theorem V.nat {k : Nat} (h : k < 9007199254740992) : V (ofInt k) (k : Rat) := by
  obtain ⟨h1, h2⟩ := rnd_whole h
  have e : ofInt (k : Int) = rndN (k * U) := by
    rw [ofInt_eq, decide_eq_false (by omega)]
    exact wd_f _
  rw [e]
  have hv := V.pos h1
  rw [h2, cast_mul] at hv
  have e2 : (k : Rat) * (U : Rat) / (U : Rat) = (k : Rat) := by have := UQ_ne; grind
  rwa [e2] at hv
/-- one step of the rising sum. -/
theorem rise_step {T : Nat} {r t h E m : Rat} {R : Nat} {d : Nat} (hR : V R r) (hT : V T t) (hr : ab r ≤ 3467 / 10000) (hd : 1 ≤ d) (hd2 : d ≤ 13) (hE : ab (t - h) ≤ E * uu) (hE0 : 0 ≤ E) (hE2 : E ≤ 10) (hm : ab h ≤ m) (hm2 : m ≤ 2) :
    ∃ t', V (fadd 4607182418800017408 (fdiv (fmul R T) (ofInt d))) t' ∧ ab (t' - (1 + r * h / (d : Rat))) ≤ uu * ab (1 + r * h / (d : Rat)) + (2 * (3467 / 10000) * m / (d : Rat) + 3467 / 10000 * E / (d : Rat) + 1 / 1000) * uu := by
  have hB := BG_big
  have ht := etT
  have ep := et_pos
  have h1d : ((1 : Nat) : Rat) ≤ (d : Rat) := cast_le.2 hd
  have e1d : ((1 : Nat) : Rat) = 1 := rfl
  rw [e1d] at h1d
  obtain ⟨z, hz⟩ : ∃ z, z = 1 / (d : Rat) := ⟨_, rfl⟩
  have hzd : ∀ x : Rat, x / (d : Rat) = x * z := by intro x; rw [hz]; grind
  have z0 : 0 ≤ z := by rw [hz]; exact (le_div (by grind)).2 (by grind)
  have z1 : z ≤ 1 := by rw [hz]; exact (div_le (by grind)).2 (by grind)
  have dne : (d : Rat) ≠ 0 := by grind
  have hD : V (ofInt (d : Int)) (d : Rat) := V.nat (by omega)
  have m0 : 0 ≤ m := Rat.le_trans (ab_nn h) hm
  have Eu : E * uu ≤ 1 / 100000000000 := by
    have := Rat.mul_le_mul_of_nonneg_right hE2 (Rat.le_of_lt uu_pos)
    rw [uuv] at *; grind
  have tb : ab t ≤ m + 1 / 100000000000 := by
    have h9 := ab_add (t - h) h
    rw [show t - h + h = t by grind] at h9
    grind
  have k1 : ab (r * t) ≤ 3467 / 10000 * (m + 1 / 100000000000) := by
    rw [ab_mul]; exact mul_mono (ab_nn r) hr (ab_nn t) tb
  obtain ⟨a1, ha1, k2⟩ := hR.mul hT (by grind)
  have k2' : ab (a1 - r * t) ≤ uu * (3467 / 10000 * (m + 1 / 100000000000)) + et := by
    have := Rat.mul_le_mul_of_nonneg_left k1 (Rat.le_of_lt uu_pos)
    grind
  have k2b : ab (a1 - r * t) ≤ 1 / 1000000000 := by rw [uuv] at k2'; grind
  have k3 : ab a1 ≤ 3467 / 10000 * m + 1 / 100000000 := by
    have h := ab_add (a1 - r * t) (r * t)
    rw [show a1 - r * t + r * t = a1 by grind] at h
    grind
  have k3z : ab (a1 * z) ≤ (3467 / 10000 * m + 1 / 100000000) * z := by
    rw [ab_mul, ab_pos z0]; exact Rat.mul_le_mul_of_nonneg_right k3 z0
  have mz0 : 0 ≤ m * z := mul_nn m0 z0
  have mz2 : m * z ≤ 2 := by have := mul_mono m0 hm2 z0 z1; grind
  have Ez0 : 0 ≤ E * z := mul_nn hE0 z0
  have Ez2 : E * z ≤ 10 := by have := mul_mono hE0 hE2 z0 z1; grind
  have k3b : ab (a1 / (d : Rat)) ≤ 1 := by rw [hzd]; grind
  obtain ⟨a2, ha2, k4⟩ := ha1.div hD dne (by grind)
  rw [hzd] at k4
  have k4' : ab (a2 - a1 * z) ≤ uu * ((3467 / 10000 * m + 1 / 100000000) * z) + et := by
    have := Rat.mul_le_mul_of_nonneg_left k3z (Rat.le_of_lt uu_pos)
    grind
  have k5 : ab ((a1 - r * t) * z) ≤ (uu * (3467 / 10000 * (m + 1 / 100000000000)) + et) * z := by
    rw [ab_mul, ab_pos z0]; exact Rat.mul_le_mul_of_nonneg_right k2' z0
  have k6 : ab (r * (t - h) * z) ≤ 3467 / 10000 * (E * uu) * z := by
    rw [ab_mul, ab_mul, ab_pos z0]
    exact Rat.mul_le_mul_of_nonneg_right (mul_mono (ab_nn r) hr (ab_nn _) hE) z0
  have ez : et * z ≤ et := by have := Rat.mul_le_mul_of_nonneg_left z1 (Rat.le_of_lt ep); grind
  have k7 : ab (a2 - r * h * z) ≤ (2 * (3467 / 10000) * (m * z) + 3467 / 10000 * (E * z) + 1 / 10000) * uu := by
    have e : a2 - r * h * z = (a2 - a1 * z) + (a1 - r * t) * z + r * (t - h) * z := by grind
    rw [e]
    have q1 := ab_add (a2 - a1 * z + (a1 - r * t) * z) (r * (t - h) * z)
    have q2 := ab_add (a2 - a1 * z) ((a1 - r * t) * z)
    rw [uuv] at *
    have f1 : (3467 / 10000 * m + 1 / 100000000) * z = 3467 / 10000 * (m * z) + 1 / 100000000 * z := by grind
    have f2 : (1 / 9007199254740992 * (3467 / 10000 * (m + 1 / 100000000000)) + et) * z = 1 / 9007199254740992 * (3467 / 10000 * (m * z + 1 / 100000000000 * z)) + et * z := by grind
    have f3 : 3467 / 10000 * (E * (1 / 9007199254740992)) * z = 3467 / 10000 * (1 / 9007199254740992) * (E * z) := by grind
    rw [f1] at k4'
    rw [f2] at k5
    rw [f3] at k6
    clear e f1 f2 f3 k4 k3z k3 hE k2 k2' k1 hzd
    generalize ab (a2 - a1 * z) = x1 at *
    generalize ab ((a1 - r * t) * z) = x2 at *
    generalize ab (r * (t - h) * z) = x3 at *
    generalize m * z = mz at *
    generalize E * z = Ez at *
    generalize et * z = etz at *
    grind
  have k7b : ab (a2 - r * h * z) ≤ 1 / 100000000 := by rw [uuv] at k7; grind
  have hb : ab (1 + r * h * z) ≤ 2 := by
    have q := ab_add 1 (r * h * z)
    have q2 : ab (r * h * z) ≤ 3467 / 10000 * (m * z) := by
      rw [ab_mul, ab_mul, ab_pos z0]
      have := Rat.mul_le_mul_of_nonneg_right (mul_mono (ab_nn r) hr (ab_nn h) hm) z0
      grind
    rw [show ab 1 = 1 by decide +kernel] at q
    grind
  have h1a2 : ab (1 + a2) ≤ ab (1 + r * h * z) + ab (a2 - r * h * z) := by
    have := ab_add (1 + r * h * z) (a2 - r * h * z)
    rwa [show 1 + r * h * z + (a2 - r * h * z) = 1 + a2 by grind] at this
  obtain ⟨t', ht', k8⟩ := (show V 4607182418800017408 1 from by have := V.pos (r := 4607182418800017408) (by decide); rwa [mval_one, show (U : Rat) / (U : Rat) = 1 by have := UQ_ne; grind] at this).add ha2 (by grind)
  refine ⟨t', ht', ?_⟩
  rw [hzd, hzd, hzd]
  have e : t' - (1 + r * h * z) = (t' - (1 + a2)) + (a2 - r * h * z) := by grind
  rw [e]
  have q := ab_add (t' - (1 + a2)) (a2 - r * h * z)
  have q2 := Rat.mul_le_mul_of_nonneg_left h1a2 (Rat.le_of_lt uu_pos)
  have g1 : 2 * (3467 / 10000) * m * z = 2 * (3467 / 10000) * (m * z) := by grind
  have g2 : 3467 / 10000 * E * z = 3467 / 10000 * (E * z) := by grind
  rw [g1, g2]
  have q3 : uu * ab (a2 - r * h * z) ≤ 1 / 100000000 * uu := by have := Rat.mul_le_mul_of_nonneg_left k7b (Rat.le_of_lt uu_pos); grind
  clear e hzd k3z k4 k5 k6 hE k2 k2' k1 k3 k4' g1 g2
  generalize ab (t' - (1 + a2)) = x1 at *
  generalize ab (a2 - r * h * z) = x2 at *
  generalize ab (1 + r * h * z) = x3 at *
  generalize ab (1 + a2) = x4 at *
  generalize m * z = mz at *
  generalize E * z = Ez at *
  rw [uuv] at *
  grind
theorem hh_bound {r : Rat} (hr : ab r ≤ 3467 / 10000) {k d : Nat} {m : Rat} (hd : 13 - k = d) (hd1 : 1 ≤ d) (hm : ab (hh r k) ≤ m) : ab (hh r (k + 1)) ≤ 1 + 3467 / 10000 * m / (d : Rat) ∧ hh r (k + 1) = 1 + r * hh r k / (d : Rat) := by
  have h1d : ((1 : Nat) : Rat) ≤ (d : Rat) := cast_le.2 hd1
  have e1d : ((1 : Nat) : Rat) = 1 := rfl
  rw [e1d] at h1d
  have e : hh r (k + 1) = 1 + r * hh r k / (d : Rat) := by rw [← hd]; rfl
  refine ⟨?_, e⟩
  rw [e]
  have a := ab_add 1 (r * hh r k / (d : Rat))
  rw [show ab 1 = 1 by decide +kernel] at a
  have b : ab (r * hh r k / (d : Rat)) ≤ 3467 / 10000 * m / (d : Rat) := by
    rw [ab_div, ab_mul, ab_pos (x := (d : Rat)) (by grind), div_le (by grind), div_self (by grind)]
    exact mul_mono (ab_nn r) hr (ab_nn _) hm
  grind
theorem rise_upto {R : Nat} {r : Rat} (hR : V R r) (hr : ab r ≤ 3467 / 10000) : ∀ k : Nat, k ≤ 10 → ∃ t, V (riseSeq R k) t ∧ ab (t - hh r k) ≤ 3 / 2 * uu ∧ ab (hh r k) ≤ 1105 / 1000
  | 0, _ => by
    have h := V.pos (r := 4607182418800017408) (by decide)
    rw [mval_one, show (U : Rat) / (U : Rat) = 1 by have := UQ_ne; grind] at h
    refine ⟨1, h, ?_, ?_⟩
    · show ab (1 - 1) ≤ _
      rw [show (1 : Rat) - 1 = 0 by decide +kernel]; decide +kernel
    · show ab 1 ≤ _; decide +kernel
  | k + 1, hk => by
    obtain ⟨t, ht, h1, h2⟩ := rise_upto hR hr k (by omega)
    obtain ⟨d, hd⟩ : ∃ d, 13 - k = d := ⟨_, rfl⟩
    have d4 : ((4 : Nat) : Rat) ≤ (d : Rat) := cast_le.2 (by omega)
    have e4 : ((4 : Nat) : Rat) = 4 := rfl
    rw [e4] at d4
    obtain ⟨b1, b2⟩ := hh_bound hr hd (by omega) h2
    obtain ⟨t', ht', h3⟩ := rise_step hR ht hr (d := d) (by omega) (by omega) h1 (by decide +kernel) (by decide +kernel) h2 (by decide +kernel)
    rw [← b2] at h3
    have ed : (13 : Int) - (k : Int) = (d : Int) := by omega
    have q1 : 3467 / 10000 * (1105 / 1000) / (d : Rat) ≤ 958 / 10000 := by rw [div_le (by grind)]; grind
    have q2 : 2 * (3467 / 10000) * (1105 / 1000) / (d : Rat) ≤ 1916 / 10000 := by rw [div_le (by grind)]; grind
    have q3 : 3467 / 10000 * (3 / 2) / (d : Rat) ≤ 1301 / 10000 := by rw [div_le (by grind)]; grind
    refine ⟨t', ?_, ?_, ?_⟩
    · show V (fadd 4607182418800017408 (fdiv (fmul R (riseSeq R k)) (ofInt (13 - (k : Int))))) t'
      rw [ed]; exact ht'
    · have u0 := uu_pos
      have g1 : ab (hh r (k + 1)) ≤ 1096 / 1000 := by grind
      have g2 := Rat.mul_le_mul_of_nonneg_left g1 (Rat.le_of_lt u0)
      have g3 := Rat.mul_le_mul_of_nonneg_right (show 2 * (3467 / 10000) * (1105 / 1000) / (d : Rat) + 3467 / 10000 * (3 / 2) / (d : Rat) + 1 / 1000 ≤ 323 / 1000 by grind) (Rat.le_of_lt u0)
      grind
    · grind
/-- THE RISING SUM down to 2, and whole. -/
theorem rise_all {R : Nat} {r : Rat} (hR : V R r) (hr : ab r ≤ 3467 / 10000) :
    (∃ t, V (riseSeq R 12) t ∧ ab (t - hh r 12) ≤ 187 / 100 * uu ∧ ab (hh r 12) ≤ 1197 / 1000) ∧ ∃ t, V (riseSeq R 13) t ∧ ab (t - TT r 13) ≤ uu * (ab (TT r 13) + 148 / 100) ∧ ab (TT r 13) ≤ 1416 / 1000 := by
  obtain ⟨t, ht, h1, h2⟩ := rise_upto hR hr 10 (by omega)
  have u0 := uu_pos
  have z3 : ((3 : Nat) : Rat) = 3 := rfl
  have z2 : ((2 : Nat) : Rat) = 2 := rfl
  have z1 : ((1 : Nat) : Rat) = 1 := rfl
  -- by 3
  obtain ⟨b1, b2⟩ := hh_bound hr (k := 10) (d := 3) rfl (by omega) h2
  obtain ⟨t1, ht1, h3⟩ := rise_step hR ht hr (d := 3) (by omega) (by omega) h1 (by decide +kernel) (by decide +kernel) h2 (by decide +kernel)
  rw [← b2] at h3
  rw [z3] at h3 b1
  have m1 : ab (hh r 11) ≤ 1128 / 1000 := by grind
  have E1 : ab (t1 - hh r 11) ≤ 156 / 100 * uu := by
    have g2 := Rat.mul_le_mul_of_nonneg_left m1 (Rat.le_of_lt u0)
    grind
  obtain ⟨c1, c2⟩ := hh_bound hr (k := 11) (d := 2) rfl (by omega) m1
  obtain ⟨t2, ht2, h4⟩ := rise_step hR (show V (riseSeq R 11) t1 from ht1) hr (d := 2) (by omega) (by omega) E1 (by decide +kernel) (by decide +kernel) m1 (by decide +kernel)
  rw [← c2] at h4
  rw [z2] at h4 c1
  have m2 : ab (hh r 12) ≤ 1197 / 1000 := by grind
  have E2 : ab (t2 - hh r 12) ≤ 187 / 100 * uu := by
    have g2 := Rat.mul_le_mul_of_nonneg_left m2 (Rat.le_of_lt u0)
    grind
  refine ⟨⟨t2, ht2, E2, m2⟩, ?_⟩
  obtain ⟨d1, d2⟩ := hh_bound hr (k := 12) (d := 1) rfl (by omega) m2
  obtain ⟨t3, ht3, h5⟩ := rise_step hR (show V (riseSeq R 12) t2 from ht2) hr (d := 1) (by omega) (by omega) E2 (by decide +kernel) (by decide +kernel) m2 (by decide +kernel)
  rw [← d2, hh_13] at h5
  rw [z1] at h5 d1
  rw [hh_13] at d1
  refine ⟨t3, ht3, ?_, by grind⟩
  have e : uu * (ab (TT r 13) + 148 / 100) = uu * ab (TT r 13) + 148 / 100 * uu := by grind
  rw [e]
  grind
theorem TT_small2 {y : Rat} (h : ab y ≤ 1) : ab (TT y 60 - 1) ≤ ab y + ab y * ab y := by
  have h1 := nr_TT_sub y 1 59
  have h2 := tail_le' (ab_nn y) (n := 1) (by have e : ((1 + 2 : Nat) : Rat) = 3 := rfl
                                             rw [e]; grind) 59
  have e0 : TT y 1 = 1 + y := by simp [TT, sm, ee_rat, ee_zero]; grind
  have e1 : TT (ab y) 1 = 1 + ab y := by simp [TT, sm, ee_rat, ee_zero]; grind
  have e2 : ee (ab y) (1 + 1) = ab y * ab y / 2 := by simp [ee_rat, ee_zero]; grind
  have h3 : ab (TT y 60 - (1 + y)) ≤ ab y * ab y := by
    have h4 := Rat.le_trans h1 h2
    rw [e0, e2] at h4
    have h5 : 2 * (ab y * ab y / 2) = ab y * ab y := by grind
    rw [h5] at h4
    exact h4
  have := ab_add (TT y 60 - (1 + y)) y
  rw [show TT y 60 - (1 + y) + y = TT y 60 - 1 by grind] at this
  grind
theorem ee_14 : 2 * ee (3467 / 10000 : Rat) 14 ≤ 8 / 100 * uu ∧ 2 * ee (3467 / 10000 + 1 / 1000 : Rat) 61 ≤ 1 / 1000 * uu := by unfold uu; decide +kernel
/-- the sum of the rest as it came out, against that of the true rest. -/
theorem sum_rest {r p : Rat} (hr : ab r ≤ 3467 / 10000) (h : ab (r - p) ≤ 7 / 10 * uu) : ab (TT r 13 - TT p 60) ≤ (9 / 100 + 7001 / 10000 * ab (TT r 60)) * uu := by
  have u0 := uu_pos
  have h' : ab (p - r) ≤ 7 / 10 * uu := by rw [ab_comm]; exact h
  have us : 7 / 10 * uu ≤ 1 / 1000 := by rw [uuv]; decide +kernel
  have t1 : ab (TT r 60 - TT r 13) ≤ 8 / 100 * uu := by
    have a := nr_TT_sub r 13 47
    have b := tail_le' (ab_nn r) (n := 13) (by have e : ((13 + 2 : Nat) : Rat) = 15 := rfl
                                               rw [e]; grind) 47
    have c := ee_mono (ab_nn r) hr 14
    have d := ee_14.1
    have a' : ab (TT r 60 - TT r 13) ≤ TT (ab r) (13 + 47) - TT (ab r) 13 := a
    have b' : TT (ab r) (13 + 47) - TT (ab r) 13 ≤ 2 * ee (ab r) 14 := b
    grind
  have t2 : ab (TT r 60 * TT (p - r) 60 - TT p 60) ≤ 1 / 1000 * uu := by
    have a := TT_near r (p - r) (a := 3467 / 10000) (b := 1 / 1000) (n := 60) hr (by show ab (p - r) ≤ _; grind) (by decide +kernel)
    rw [show r + (p - r) = p by grind] at a
    exact Rat.le_trans a ee_14.2
  have t3 := TT_small2 (show ab (p - r) ≤ 1 by grind)
  have t4 : ab (TT (p - r) 60 - 1) ≤ 7001 / 10000 * uu := by
    have := mul_mono (ab_nn (p - r)) h' (ab_nn (p - r)) h'
    have u2 : 7 / 10 * uu * (7 / 10 * uu) ≤ 1 / 10000 * uu := by rw [uuv]; decide +kernel
    grind
  have t5 : ab (TT r 60 * (TT (p - r) 60 - 1)) ≤ ab (TT r 60) * (7001 / 10000 * uu) := by
    rw [ab_mul]; exact Rat.mul_le_mul_of_nonneg_left t4 (ab_nn _)
  have e : TT r 13 - TT p 60 = (TT r 60 * TT (p - r) 60 - TT p 60) - TT r 60 * (TT (p - r) 60 - 1) - (TT r 60 - TT r 13) := by grind
  rw [e]
  have q1 := ab_sub (TT r 60 * TT (p - r) 60 - TT p 60 - TT r 60 * (TT (p - r) 60 - 1)) (TT r 60 - TT r 13)
  have q2 := ab_sub (TT r 60 * TT (p - r) 60 - TT p 60) (TT r 60 * (TT (p - r) 60 - 1))
  grind
theorem TT_arg {s t : Rat} (h0 : 0 ≤ s) (h : s ≤ t) (n : Nat) : TT s n ≤ TT t n := sm_le fun i _ => ee_mono h0 h i
theorem TT_range {p : Rat} (h : ab p ≤ 3467 / 10000) : 7 / 10 ≤ TT p 60 ∧ TT p 60 ≤ 1416 / 1000 := by
  have up : ∀ q : Rat, ab q ≤ 3467 / 10000 → ab (TT q 60) ≤ 1416 / 1000 := by
    intro q hq
    have a := nr_TT q 60
    have a' : ab (TT q 60) ≤ TT (ab q) 60 := a
    have b := TT_arg (ab_nn q) hq 60
    have c : TT (3467 / 10000 : Rat) 60 ≤ 1416 / 1000 := by decide +kernel
    grind
  have u1 := up p h
  have u2 := up (-p) (by rw [ab_neg]; exact h)
  have nr' := TT_near p (-p) (a := 3467 / 10000) (b := 3467 / 10000) (n := 60) h (by show ab (-p) ≤ _; rw [ab_neg]; exact h) (by decide +kernel)
  rw [show p + -p = 0 by grind, show TT (0 : Rat) 60 = 1 by decide +kernel] at nr'
  have n2 : ab (TT p 60 * TT (-p) 60 - 1) ≤ 1 / 1000000 := Rat.le_trans nr' (by decide +kernel)
  have b := TT_small (show ab p ≤ 1 by grind) 60
  have pos : 0 ≤ TT p 60 := by rw [ab_le] at b; grind
  rw [ab_le] at n2 u1 u2
  have m := Rat.mul_le_mul_of_nonneg_left u2.2 pos
  constructor <;> grind
/-- THE PROGRAM'S EXPONENTIAL before its power of two. -/
theorem exp_core {f : Nat} {a : Rat} (hf : V f a) (ha : ab a ≤ 760) :
    ∃ (n : Int) (t P : Rat), wInt (expN f) = n ∧ V (expN f) (n : Rat) ∧ -1100 ≤ n ∧ n ≤ 1100 ∧ V (riseSeq (expR f) 13) t ∧ Rl (XX a) (pw n * P) (tw 70) ∧ 7 / 10 ≤ P ∧ P ≤ 1417 / 1000 ∧ ab (t - P) ≤ uu * (1702 / 1000 * P + 158 / 100) := by
  obtain ⟨n, r, h1, h2, h3, h4, h5, h6, h7⟩ := exp_rest hf ha
  have u0 := uu_pos
  have us : 7 / 10 * uu ≤ 1 / 100000 := by rw [uuv]; decide +kernel
  have hr : ab r ≤ 3467 / 10000 := by
    have := ab_add (r - (a - (n : Rat) * L2)) (a - (n : Rat) * L2)
    rw [show r - (a - (n : Rat) * L2) + (a - (n : Rat) * L2) = r by grind] at this
    grind
  obtain ⟨t, ht, e1, e2⟩ := (rise_all h5 hr).2
  have e3 := sum_rest hr h7
  have hX := XX_parts (n := n) (p := a - (n : Rat) * L2) (by omega) (by omega) (by grind)
  rw [show (n : Rat) * L2 + (a - (n : Rat) * L2) = a by grind] at hX
  have hPR := TT_range (show ab (a - (n : Rat) * L2) ≤ 3467 / 10000 by grind)
  generalize TT (a - (n : Rat) * L2) 60 = P at *
  have t60 : ab (TT r 60 - TT r 13) ≤ 1 / 1000000 := by
    have a := nr_TT_sub r 13 47
    have b := tail_le' (ab_nn r) (n := 13) (by have e : ((13 + 2 : Nat) : Rat) = 15 := rfl
                                               rw [e]; grind) 47
    have c := ee_mono (ab_nn r) hr 14
    have d := ee_14.1
    have a' : ab (TT r 60 - TT r 13) ≤ TT (ab r) (13 + 47) - TT (ab r) 13 := a
    have b' : TT (ab r) (13 + 47) - TT (ab r) 13 ≤ 2 * ee (ab r) 14 := b
    rw [uuv] at d
    grind
  refine ⟨n, t, P, h2, h1, h3, h4, ht, hX, hPR.1, by grind, ?_⟩
  have r60 := (TT_range hr).2
  have r60' := (TT_range hr).1
  have s1 : ab (TT r 13 - P) ≤ 1 / 100000 := by
    have : ab (TT r 60) ≤ 1416 / 1000 := by rw [ab_pos (by grind)]; exact r60
    have := Rat.mul_le_mul_of_nonneg_right (show 9 / 100 + 7001 / 10000 * ab (TT r 60) ≤ 2 by grind) (Rat.le_of_lt u0)
    have us2 : 2 * uu ≤ 1 / 100000 := by rw [uuv]; decide +kernel
    grind
  have s2 : ab (TT r 13) ≤ P + 1 / 100000 := by
    have := ab_add (TT r 13 - P) P
    rw [show TT r 13 - P + P = TT r 13 by grind, ab_pos (x := P) (by grind)] at this
    grind
  have s3 : ab (TT r 60) ≤ P + 2 / 100000 := by
    have := ab_add (TT r 60 - TT r 13) (TT r 13)
    rw [show TT r 60 - TT r 13 + TT r 13 = TT r 60 by grind] at this
    grind
  have q := ab_tri t (TT r 13) P
  have g1 := Rat.mul_le_mul_of_nonneg_left (show ab (TT r 13) + 148 / 100 ≤ P + 1 / 100000 + 148 / 100 by grind) (Rat.le_of_lt u0)
  have g2 := Rat.mul_le_mul_of_nonneg_right (show 9 / 100 + 7001 / 10000 * ab (TT r 60) ≤ 9 / 100 + 7001 / 10000 * (P + 2 / 100000) by grind) (Rat.le_of_lt u0)
  have g3 := mul_nn (Rat.le_of_lt u0) (show 0 ≤ P by grind)
  grind
theorem gap_ge {r : Nat} {k : Int} (h : r < 9218868437227405312) (hk : pw k ≤ (mval r : Rat) / (U : Rat)) : pw (k - 52) ≤ gapq r := by
  rw [gap_pw]
  obtain ⟨L, hL⟩ : ∃ L, L = r / 4503599627370496 - 1 := ⟨_, rfl⟩
  obtain ⟨q, hq⟩ : ∃ q, q = r - L * 4503599627370496 := ⟨_, rfl⟩
  have hr : r = L * 4503599627370496 + q := by omega
  have b2 : q < 2 ^ 53 := by omega
  have e0 : mval r = q * 2 ^ L := by rw [hr]; exact mval_plc (by omega) (by omega)
  rw [← hL]
  have h3 : mval r < 2 ^ (53 + L) := by
    rw [e0, Nat.pow_add]
    exact Nat.mul_lt_mul_of_pos_right b2 (Nat.pow_pos (by decide))
  have h4 : (mval r : Rat) / (U : Rat) < pw (((53 + L : Nat) : Int) - (e1 : Int)) := by
    rw [pw_sub, ← U_def]
    have hU := UQ_pos
    have hc : (mval r : Rat) < ((2 ^ (53 + L) : Nat) : Rat) := by
      have := cast_le.2 h3
      have e : ((mval r + 1 : Nat) : Rat) = (mval r : Rat) + 1 := by grind
      have : ((mval r + 1 : Nat) : Rat) ≤ ((2 ^ (53 + L) : Nat) : Rat) := this
      rw [e] at this
      grind
    generalize ((2 ^ (53 + L) : Nat) : Rat) = Z at *
    have a1 := div_self_mul (mval r : Rat) UQ_ne
    have a2 := div_self_mul Z UQ_ne
    rcases Rat.le_total (a := Z / (U : Rat)) (b := (mval r : Rat) / (U : Rat)) with m | m
    · have := Rat.mul_le_mul_of_nonneg_right m (Rat.le_of_lt hU)
      grind
    · by_cases e : (mval r : Rat) / (U : Rat) = Z / (U : Rat)
      · rw [e] at a1; grind
      · grind
  have := pw_lt_no (show pw k < _ from lt_of_le_no hk h4)
  exact pw_mono (by omega)
theorem err_core {t P p v : Rat} (hp : 0 < p) (hP : 0 ≤ P) (ht : ab (t - P) ≤ uu * (1702 / 1000 * P + 158 / 100)) (hv : ab (v - p * P) ≤ 1 / 128 * uu * (p * P)) :
    ab (t * p - v) ≤ (1702 / 1000 + 1 / 128) * (uu * p * P) + 158 / 100 * (uu * p) := by
  have h1 := Rat.mul_le_mul_of_nonneg_right ht (Rat.le_of_lt hp)
  have h2 : ab ((t - P) * p) = ab (t - P) * p := by rw [ab_mul, ab_pos (Rat.le_of_lt hp)]
  have h3 := ab_tri (t * p) (p * P) v
  rw [ab_comm (p * P) v, show t * p - p * P = (t - P) * p by grind, h2] at h3
  grind
/-- where the power of two is exact. -/
theorem err_exact {t P v : Rat} {n : Int} {r : Nat} (hr : r < 9218868437227405312) (h1 : 7 / 10 ≤ P) (h2 : P ≤ 1417 / 1000) (ht : ab (t - P) ≤ uu * (1702 / 1000 * P + 158 / 100)) (hv : ab (v - pw n * P) ≤ 1 / 128 * uu * (pw n * P)) (hc : t * pw n = (mval r : Rat) / (U : Rat)) :
    101 / 100 * ab (t * pw n - v) ≤ 4 * gapq r := by
  have hp := pw_pos n
  have hu := uu_pos
  have hus : uu ≤ 1 / 100000 := by rw [uuv]; decide +kernel
  have k := err_core hp (by grind) ht hv
  have hA : 0 < uu * pw n := Rat.mul_pos hu hp
  have ht2 : ab (t - P) ≤ 5 / 100000 := by
    have := Rat.mul_le_mul_of_nonneg_right hus (show 0 ≤ 1702 / 1000 * P + 158 / 100 by grind)
    grind
  rw [ab_le] at ht2
  have e53 : uu = pw (-53) := by decide +kernel
  by_cases h : 1 ≤ t
  · have g := gap_ge (k := n) hr (by rw [← hc]; have := Rat.mul_le_mul_of_nonneg_right h (Rat.le_of_lt hp); grind)
    have e : pw (n - 52) = 2 * (uu * pw n) := by
      rw [e53, ← pw_add, ← pw_one, ← pw_add]; congr 1; omega
    rw [e] at g
    have q := Rat.mul_le_mul_of_nonneg_left h2 (Rat.le_of_lt hA)
    grind
  · have g := gap_ge (k := n - 1) hr (by
      rw [← hc]
      have e : pw n = 2 * pw (n - 1) := by rw [← pw_one, ← pw_add]; congr 1; omega
      have := pw_pos (n - 1)
      have := Rat.mul_le_mul_of_nonneg_right (show 1 / 2 ≤ t by grind) (Rat.le_of_lt hp)
      grind)
    have e : pw (n - 1 - 52) = uu * pw n := by
      rw [e53, ← pw_add]; congr 1; omega
    rw [e] at g
    have q := Rat.mul_le_mul_of_nonneg_left (show P ≤ 1 + 5 / 100000 by grind) (Rat.le_of_lt hA)
    grind
/-- among the smallest. -/
theorem err_small {t P v c : Rat} {n : Int} {r : Nat} (hr : r ≤ 4503599627370496) (h1 : 7 / 10 ≤ P) (h2 : P ≤ 1417 / 1000) (ht : ab (t - P) ≤ uu * (1702 / 1000 * P + 158 / 100)) (hv : ab (v - pw n * P) ≤ 1 / 128 * uu * (pw n * P)) (hc : ab c = (mval r : Rat) / (U : Rat)) (he : ab (c - t * pw n) ≤ et) :
    101 / 100 * ab (c - v) ≤ 4 * gapq r := by
  have hp := pw_pos n
  have hu := uu_pos
  have hus : uu ≤ 1 / 100000 := by rw [uuv]; decide +kernel
  have k := err_core hp (by grind) ht hv
  have hA : 0 < uu * pw n := Rat.mul_pos hu hp
  have ht2 : ab (t - P) ≤ 5 / 100000 := by
    have := Rat.mul_le_mul_of_nonneg_right hus (show 0 ≤ 1702 / 1000 * P + 158 / 100 by grind)
    grind
  rw [ab_le] at ht2
  have hg : 2 * et ≤ gapq r := by
    have := gap_mono (Nat.zero_le r)
    have e : gapq 0 = 1 / (U : Rat) := by rw [gap_eq]; rfl
    have e2 : 2 * et = 1 / (U : Rat) := by
      have a := et_U
      have b := div_self_mul 1 UQ_ne
      have : (2 * et - 1 / (U : Rat)) * (U : Rat) = 0 := by grind
      have := UQ_ne
      grind
    grind
  have hm : uu * ab c ≤ et := by
    have a : mval r ≤ 4503599627370496 := by
      have := mval_le_iff.2 hr
      have e : mval 4503599627370496 = 4503599627370496 := by decide +kernel
      omega
    have a' := cast_le.2 a
    have b : (mval r : Rat) / (U : Rat) ≤ 9007199254740992 * et := by
      rw [div_le UQ_pos]
      have := et_U
      have e9 : ((4503599627370496 : Nat) : Rat) = 4503599627370496 := by decide +kernel
      rw [e9] at a'
      grind
    rw [hc]
    have := Rat.mul_le_mul_of_nonneg_left b (Rat.le_of_lt hu)
    rw [uuv] at this ⊢
    grind
  have hep := et_pos
  have q0 := ab_tri c (t * pw n) v
  have tp : 0 ≤ t * pw n := Rat.mul_nonneg (by grind) (Rat.le_of_lt hp)
  have q1 := ab_of c
  have q2 := (ab_le.1 he)
  have q3 : t * pw n ≤ ab c + et := by grind
  have q4 := Rat.mul_le_mul_of_nonneg_left q3 (Rat.le_of_lt hu)
  have q5 := Rat.mul_le_mul_of_nonneg_right hus (Rat.le_of_lt hep)
  have q6 := Rat.mul_le_mul_of_nonneg_left (show P ≤ 1001 / 1000 * t by grind) (Rat.le_of_lt hA)
  have q7 := Rat.mul_le_mul_of_nonneg_left h1 (Rat.le_of_lt hA)
  have e8 : uu * (t * pw n) = uu * pw n * t := by grind
  rw [e8] at q4
  grind
/-- the greatest float. -/
theorem max_val : (mval 9218868437227405311 : Rat) / (U : Rat) = pw 1024 * (1 - uu) := by
  obtain ⟨L, hL⟩ : ∃ L : Nat, L = 2045 := ⟨_, rfl⟩
  have h := mval_plc (L := L) (q := 9007199254740991) (by decide) (.inr (by decide))
  rw [show L * 4503599627370496 + 9007199254740991 = 9218868437227405311 by omega] at h
  have e := pw_sub L e1
  rw [show ((L : Nat) : Int) - ((e1 : Nat) : Int) = 971 by rw [e1_eq]; omega] at e
  have e2 : pw 1024 = 9007199254740992 * pw 971 := by
    rw [show (1024 : Int) = 53 + 971 by omega, pw_add]
    have : pw 53 = 9007199254740992 := by decide +kernel
    rw [this]
  rw [h, cast_mul, e2, e, ← U_def, uuv]
  have e9 : ((9007199254740991 : Nat) : Rat) = 9007199254740991 := by decide +kernel
  rw [e9]
  have := div_self_mul ((2 ^ L : Nat) : Rat) UQ_ne
  have hu := UQ_ne
  generalize ((2 ^ L : Nat) : Rat) = Z at *
  have b := div_self_mul (9007199254740991 * Z) UQ_ne
  have : (9007199254740991 * Z / (U : Rat) - 9007199254740991 * (Z / (U : Rat))) * (U : Rat) = 0 := by grind
  grind
theorem scale_top {f : Nat} {a : Rat} (hf : V f a) (ha : 0 < a) {n : Int} (h0 : 0 ≤ n) (h1 : n ≤ 5000) :
    V (scaleF f (clampN n)) (a * pw n) ∨ (scaleF f (clampN n) = infP ∧ pw 1024 * (1 - uu) ≤ a * pw n) := by
  have hU := UQ_pos
  have hfr := fin_rung hf.fin
  have hw := posW hf ha
  rw [clamp_id (by omega) h1]
  have hz : rung f ≠ 0 := hf.nz (by grind)
  have hsv := scale_val hf.lt hf.fin hz n
  have hv := hf.uniq (V.pos hw)
  have hs : sgn f = false := (word_facts hw).2.1
  have hru : rung f = f := (word_facts hw).2.2.1
  obtain ⟨j, rfl⟩ := Int.eq_ofNat_of_zero_le h0
  rw [rndE_nat, hs, hru] at hsv
  have hwd : ∀ q, wd false q = q := fun q => wd_no q
  rw [hwd] at hsv
  rw [hsv, pw_nat, hv]
  have hmul : (mval f : Rat) / (U : Rat) * ((2 ^ j : Nat) : Rat) = ((mval f * 2 ^ j : Nat) : Rat) / (U : Rat) := by
    rw [cast_mul]
    have a1 := div_self_mul (mval f : Rat) UQ_ne
    have a2 := div_self_mul ((mval f : Rat) * ((2 ^ j : Nat) : Rat)) UQ_ne
    have := UQ_ne
    have : ((mval f : Rat) / (U : Rat) * ((2 ^ j : Nat) : Rat) - (mval f : Rat) * ((2 ^ j : Nat) : Rat) / (U : Rat)) * (U : Rat) = 0 := by grind
    grind
  rw [hmul]
  rcases Nat.lt_or_ge (rndN (mval f * 2 ^ j)) 9218868437227405312 with k | k
  · left
    obtain ⟨m, t, em, hm⟩ := mval_form' hw
    have hex : mval (rndN (mval f * 2 ^ j)) = mval f * 2 ^ j := by
      have e1 : mval f * 2 ^ j = m * 2 ^ (t + j) := by rw [em, Nat.mul_assoc, Nat.pow_add]
      rw [e1] at k ⊢
      exact rnd_shift_exact hm k
    have := V.pos k
    rwa [hex] at this
  · right
    refine ⟨?_, ?_⟩
    · have := rndN_le (mval f * 2 ^ j)
      have e : rndN (mval f * 2 ^ j) = 9218868437227405312 := by omega
      rw [e]; rfl
    · rw [← max_val, div_le hU, div_self_mul _ UQ_ne]
      apply cast_le.2
      rcases Nat.le_total (mval 9218868437227405311) (mval f * 2 ^ j) with m | m
      · exact m
      · have := rndN_le_of (r := 9218868437227405311) (by decide) m
        omega
/-- where it is infinite, the true one is beyond the law's mark. -/
theorem big_true {t P v : Rat} {n : Int} (h1 : 7 / 10 ≤ P) (ht : ab (t - P) ≤ uu * (1702 / 1000 * P + 158 / 100)) (hv : ab (v - pw n * P) ≤ 1 / 128 * uu * (pw n * P)) (hc : pw 1024 * (1 - uu) ≤ t * pw n) :
    pw 1024 * (1 - 498 / 100 * uu) ≤ v := by
  have hp := pw_pos n
  have hM := pw_pos 1024
  have h2 := Rat.mul_le_mul_of_nonneg_right ht (Rat.le_of_lt hp)
  have h3 : ab ((t - P) * pw n) = ab (t - P) * pw n := by rw [ab_mul, ab_pos (Rat.le_of_lt hp)]
  rw [← h3] at h2
  have h4 := (ab_le.1 h2).2
  have h5 := (ab_le.1 hv).1
  have h6 := Rat.mul_le_mul_of_nonneg_right h1 (Rat.le_of_lt hp)
  rw [uuv] at *
  generalize pw 1024 = M at *
  generalize pw n = p at *
  obtain ⟨Q, hQ⟩ : ∃ Q, Q = p * P := ⟨_, rfl⟩
  have e1 : (t - P) * p = t * p - Q := by grind
  have e2 : 1 / 9007199254740992 * (1702 / 1000 * P + 158 / 100) * p = 1 / 9007199254740992 * (1702 / 1000 * Q + 158 / 100 * p) := by grind
  rw [e1, e2] at h4
  rw [← hQ] at h5
  have e3 : P * p = Q := by grind
  rw [e3] at h6
  generalize t * p = T at *
  grind
theorem word_ge {w N D : Nat} (hD : 0 < D) (h : N * U ≤ mval w * D) : (N : Rat) / (D : Rat) ≤ (mval w : Rat) / (U : Rat) := by
  have hU := UQ_pos
  have h1 := cast_le.2 h
  rw [cast_mul, cast_mul] at h1
  have hDp : (0 : Rat) < (D : Rat) := by
    have := cast_le.2 hD
    have e : ((1 : Nat) : Rat) = 1 := rfl
    have : ((1 : Nat) : Rat) ≤ (D : Rat) := this
    rw [e] at this
    grind
  rw [div_le hDp]
  have a := div_self_mul (mval w : Rat) UQ_ne
  generalize (mval w : Rat) / (U : Rat) = x at *
  rw [← a] at h1
  have e : x * (U : Rat) * (D : Rat) = x * (D : Rat) * (U : Rat) := by grind
  rw [e] at h1
  exact Rat.le_of_mul_le_mul_right h1 hU
theorem L2_one : L2 = 26814832747904039722237046 / 38685626227668133590597632 := by
  decide +kernel
theorem V.order {f g : Nat} {a : Rat} (hf : V f a) (hl : flt g f = true) (hg : g < 9218868437227405312) : (mval (g + 1) : Rat) / (U : Rat) ≤ a := by
  obtain ⟨_, _, _, b4, b5, _⟩ := word_facts hg
  rw [flt_eq, b4, fin_notN hf.fin, b5] at hl
  simp only [Bool.not_false, Bool.true_and, decide_eq_true_eq] at hl
  have hs : sgn f = false := by
    cases e : sgn f
    · rfl
    · unfold sval at hl; rw [e] at hl
      simp at hl
      omega
  have hv := hf.form
  rw [hs] at hv
  unfold sval at hl; rw [hs] at hl
  have h1 : mval g < mval (rung f) := by simpa using hl
  have h2 := mval_lt_iff.1 h1
  have h3 := cast_le.2 (mval_le_iff.2 (show g + 1 ≤ rung f by omega))
  rw [hv]
  show _ ≤ (mval (rung f) : Rat) / (U : Rat)
  rw [div_le UQ_pos, div_self_mul _ UQ_ne]
  exact h3
theorem V.order_neg {f g : Nat} {a : Rat} (hf : V f a) (hl : flt f (g + 9223372036854775808) = true) (hg : g < 9218868437227405312) : a ≤ -((mval g : Rat) / (U : Rat)) := by
  have g1 : sgn (g + 9223372036854775808) = true := by unfold sgn; simp; omega
  have g2 : rung (g + 9223372036854775808) = g := by unfold rung; omega
  have g3 : isN (g + 9223372036854775808) = false := by apply fin_notN; unfold Proofs.Ytcfkhhnkboealaa.fin; rw [g2]; simpa using hg
  have g4 : sval (g + 9223372036854775808) = -(mval g : Int) := by unfold sval; rw [g1, g2]; simp
  rw [flt_eq, g3, fin_notN hf.fin, g4] at hl
  simp only [Bool.not_false, Bool.true_and, decide_eq_true_eq] at hl
  have hs : sgn f = true := by
    cases e : sgn f
    · unfold sval at hl; rw [e] at hl
      simp at hl
      omega
    · rfl
  have hv := hf.form
  rw [hs] at hv
  unfold sval at hl; rw [hs] at hl
  have h1 : mval g < mval (rung f) := by
    simp at hl
    omega
  have h3 := cast_le.2 (Nat.le_of_lt h1)
  rw [hv]
  show -((mval (rung f) : Rat) / (U : Rat)) ≤ _
  have : (mval g : Rat) / (U : Rat) ≤ (mval (rung f) : Rat) / (U : Rat) := by
    rw [div_le UQ_pos, div_self_mul _ UQ_ne]
    exact h3
  grind
theorem V_zero : V 0 0 := by
  have h := V.pos (r := 0) (by decide)
  rw [mval_zero] at h
  have e : ((0 : Nat) : Rat) / (U : Rat) = 0 := by
    have a := div_self_mul ((0 : Nat) : Rat) UQ_ne
    have := UQ_ne
    have e0 : ((0 : Nat) : Rat) = 0 := rfl
    rw [e0] at a ⊢
    grind
  rwa [e] at h
theorem TT_one {y : Rat} (h : 0 ≤ y) (n : Nat) : 1 ≤ TT y n := by
  induction n with
  | zero => rw [TT_zero]; exact Rat.le_refl
  | succ n ih =>
    rw [TT_succ]
    have := ee_nn h (n + 1)
    grind
theorem sqr_one {x : Rat} (h : 1 ≤ x) : ∀ k, 1 ≤ sqr k x
  | 0 => h
  | k + 1 => by
    have a := sqr_one h k
    have := Rat.mul_le_mul_of_nonneg_left a (show 0 ≤ sqr k x by grind)
    simp only [sqr]
    grind
theorem XX_one {a : Rat} (h : 0 ≤ a) : 1 ≤ XX a := by
  have t : 0 ≤ tw 16 := by decide +kernel
  exact sqr_one (TT_one (Rat.mul_nonneg h t) 60) 16
/-- great arguments. -/
theorem XX_great {a : Rat} (h : 1024 * L2 ≤ a) (h2 : a ≤ 760) : pw 1024 * (1 - 1 / 128 * uu) ≤ XX a := by
  have hl : (1024 : Rat) * L2 ≤ 710 ∧ 0 ≤ 1024 * L2 := by decide +kernel
  have h1 := XX_add (a := 1024 * L2) (b := a - 1024 * L2) (by rw [ab_pos hl.2]; grind) (by rw [ab_pos (by grind)]; grind)
  rw [show 1024 * L2 + (a - 1024 * L2) = a by grind] at h1
  have h3 := (XX_pow2 (n := 1024) (by decide) (by decide))
  have e : ((1024 : Int) : Rat) = 1024 := by decide +kernel
  rw [e] at h3
  have h4 := XX_one (a := a - 1024 * L2) (by grind)
  have h5 := (ab_le.1 h3.1).1
  have h6 := (ab_le.1 h1.1).2
  have hM := pw_pos 1024
  have hX := h1.2
  have t1 : tw 71 ≤ 1 / 1000 * uu := by decide +kernel
  have t2 : tw 553 ≤ 1 / 1000 * uu := by decide +kernel
  have us : uu ≤ 1 / 1000 := by decide +kernel
  have hu := uu_pos
  have k1 := Rat.mul_le_mul_of_nonneg_right t1 (Rat.le_of_lt hM)
  have k2 := Rat.mul_le_mul_of_nonneg_right t2 (Rat.le_of_lt hX)
  have k3 := Rat.mul_le_mul_of_nonneg_left h4 (show 0 ≤ XX (1024 * L2) by
    have := Rat.mul_le_mul_of_nonneg_right us (Rat.le_of_lt hM)
    grind)
  generalize XX (1024 * L2) * XX (a - 1024 * L2) = Y at *
  generalize XX (1024 * L2) = Z at *
  generalize XX a = W at *
  generalize pw 1024 = M at *
  rw [uuv] at *
  grind
/-- the smallest ones. -/
theorem XX_least {a : Rat} (h : a ≤ -(1074 * L2)) (h2 : -760 ≤ a) : XX a ≤ 101 / 100 * pw (-1074) := by
  have hl : (1074 : Rat) * L2 ≤ 745 ∧ 0 ≤ 1074 * L2 := by decide +kernel
  have h1 := XX_add (a := a) (b := -(1074 * L2) - a) (by rw [ab_le]; constructor <;> grind) (by rw [ab_pos (by grind)]; grind)
  rw [show a + (-(1074 * L2) - a) = -(1074 * L2) by grind] at h1
  have h3 := (XX_pow2 (n := -1074) (by decide) (by decide))
  have e : ((-1074 : Int) : Rat) * L2 = -(1074 * L2) := by decide +kernel
  rw [e] at h3
  have h4 := XX_one (a := -(1074 * L2) - a) (by grind)
  have h5 := (ab_le.1 h3.1).2
  have h6 := (ab_le.1 h1.1).2
  have hM := pw_pos (-1074)
  have hX := h1.2
  have t1 : tw 71 ≤ 1 / 1000 := by decide +kernel
  have t2 : tw 553 ≤ 1 / 1000 := by decide +kernel
  have k1 := Rat.mul_le_mul_of_nonneg_right t1 (Rat.le_of_lt hM)
  have k2 := Rat.mul_le_mul_of_nonneg_right t2 (Rat.le_of_lt hX)
  have k3 := Rat.mul_le_mul_of_nonneg_left h4 (Rat.le_of_lt (XX_pos (a := a) (by rw [ab_le]; constructor <;> grind)))
  grind
end Go.Proofs.Ytcfkhhnkboealaa
