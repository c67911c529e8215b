/- The program's odd sum by value. No text of the program. -/
import Derived.Test.YtcfkhhnkboealaaDoorLb
namespace Go.Proofs.YtcfkhhnkboealaaDoor
open Go.RowKit
set_option linter.unusedVariables false
set_option linter.unusedSimpArgs false
set_option maxRecDepth 100000
set_option maxHeartbeats 4000000
open Turns Sizes
theorem et_1000 : et ≤ pw (-1000) := by
  have := et_two
  have h3 : pw (-(e1 : Int)) ≤ pw (-1000) := pw_mono (by rw [e1_eq]; decide)
  have := et_pos
  grind
theorem et_500 : et ≤ 1 / 1000000 * (uu * pw (-500)) := Rat.le_trans et_1000 (by decide +kernel)
theorem et_uu : et ≤ 1 / 1000000 * uu := Rat.le_trans et_1000 (by decide +kernel)
/-- the odd sum's inner part. -/
def hq (s : Rat) : Nat → Rat
  | 0 => 1 / 25
  | i + 1 => 1 / ((23 - 2 * i : Nat) : Rat) + s * hq s i
theorem AT_hq (u : Rat) : AT u 13 = u * (1 + u * u * hq (u * u) 11) := by
  simp only [AT, pn, hq]
  simp
  grind
theorem hq_size {s : Rat} (h : 0 ≤ s) (h2 : s ≤ 296 / 10000) : ∀ i, i ≤ 11 → 0 ≤ hq s i ∧ hq s i ≤ 345 / 1000
  | 0, _ => by simp only [hq]; constructor <;> grind
  | i + 1, hi => by
    obtain ⟨a, b⟩ := hq_size h h2 i (by omega)
    have c1 : ((3 : Nat) : Rat) ≤ ((23 - 2 * i : Nat) : Rat) := cast_le.2 (by omega)
    have e3 : ((3 : Nat) : Rat) = 3 := rfl
    rw [e3] at c1
    have m := mul_mono h h2 a b
    have p := Rat.mul_nonneg h a
    have d1 : 1 / ((23 - 2 * i : Nat) : Rat) ≤ 1 / 3 := by rw [div_le (by grind)]; grind
    have d2 : 0 ≤ 1 / ((23 - 2 * i : Nat) : Rat) := by rw [le_div (by grind)]; grind
    show 0 ≤ 1 / ((23 - 2 * i : Nat) : Rat) + s * hq s i ∧ 1 / ((23 - 2 * i : Nat) : Rat) + s * hq s i ≤ _
    constructor <;> grind
theorem q_err {s s' t g k d m t' : Rat} (hs0 : 0 ≤ s) (hs : s ≤ 296 / 10000) (h1 : ab (s' - s) ≤ 1001 / 1000 * (uu * s)) (h2 : ab (t - g) ≤ 8 / 10 * uu) (hg0 : 0 ≤ g) (hg : g ≤ 345 / 1000) (hk0 : 0 ≤ k) (hk : k ≤ 1 / 3)
    (hd : ab (d - k) ≤ uu * ab k + et) (hm : ab (m - s' * t) ≤ uu * ab (s' * t) + et) (ht : ab (t' - (d + m)) ≤ uu * ab (d + m)) : ab (t' - (k + s * g)) ≤ 8 / 10 * uu := by
  have hu : 0 < uu ∧ uu ≤ 1 / 1000000 := by decide +kernel
  have het := et_uu
  have he0 := et_pos
  rw [ab_pos hk0] at hd
  have us : uu * s ≤ 296 / 10000 * uu := by have := Rat.mul_le_mul_of_nonneg_left hs (Rat.le_of_lt hu.1); grind
  have us0 := Rat.mul_nonneg (Rat.le_of_lt hu.1) hs0
  have a1 := ab_le.1 h1
  have a2 := ab_le.1 h2
  have s1 : ab s' ≤ 297 / 10000 := by rw [ab_le]; constructor <;> grind
  have t1 : ab t ≤ 346 / 1000 := by rw [ab_le]; constructor <;> grind
  have st : ab (s' * t) ≤ 103 / 10000 := by
    rw [ab_mul]
    have := mul_mono (ab_nn s') s1 (ab_nn t) t1
    grind
  have st2 : ab (s' * t - s * g) ≤ 35 / 1000 * uu := by
    have e : s' * t - s * g = s' * (t - g) + (s' - s) * g := by grind
    rw [e]
    have b1 := ab_add (s' * (t - g)) ((s' - s) * g)
    have b2 : ab (s' * (t - g)) ≤ 297 / 10000 * (8 / 10 * uu) := by rw [ab_mul]; exact mul_mono (ab_nn _) s1 (ab_nn _) h2
    have b3 : ab ((s' - s) * g) ≤ 1001 / 1000 * (296 / 10000 * uu) * (345 / 1000) := by
      rw [ab_mul, ab_pos hg0]
      exact mul_mono (ab_nn _) (by grind) hg0 hg
    grind
  have k1 := Rat.mul_le_mul_of_nonneg_left st (Rat.le_of_lt hu.1)
  have k2 := Rat.mul_le_mul_of_nonneg_left hk (Rat.le_of_lt hu.1)
  have m1 : ab (m - s * g) ≤ 46 / 1000 * uu := by
    have := ab_tri m (s' * t) (s * g)
    grind
  have sg : 0 ≤ s * g ∧ s * g ≤ 103 / 10000 := by
    have := mul_mono hs0 hs hg0 hg
    exact ⟨Rat.mul_nonneg hs0 hg0, by grind⟩
  have dm : ab (d + m) ≤ 3438 / 10000 := by
    have c1 := ab_le.1 hd
    have c2 := ab_le.1 m1
    rw [ab_le]
    constructor <;> grind
  have k3 := Rat.mul_le_mul_of_nonneg_left dm (Rat.le_of_lt hu.1)
  have x1 := ab_tri t' (d + m) (k + s * g)
  have x2 := ab_add (d - k) (m - s * g)
  rw [show d - k + (m - s * g) = d + m - (k + s * g) by grind] at x2
  grind
theorem q_upto {S : Nat} {s s' : Rat} (hS : V S s') (h1 : ab (s' - s) ≤ 1001 / 1000 * (uu * s)) (hs0 : 0 ≤ s) (hs : s ≤ 296 / 10000) : ∀ i, i ≤ 11 → ∃ t, V (qSeq S i) t ∧ ab (t - hq s i) ≤ 8 / 10 * uu
  | 0, _ => by
    have h := V.pos (r := 4585925428558828667) (by decide)
    refine ⟨_, h, ?_⟩
    show ab ((mval 4585925428558828667 : Rat) / (U : Rat) - 1 / 25) ≤ _
    have m1 : 36028797018963968 * U ≤ mval 4585925428558828667 * (25 * 36028797018963968) + 25 * (8 * U / 10) ∧ mval 4585925428558828667 * (25 * 36028797018963968) ≤ 36028797018963968 * U + 25 * (8 * U / 10) := by decide +kernel
    have u1 : (mval 4585925428558828667 : Rat) / (U : Rat) ≤ 1 / 25 + 8 / 10 * uu := by
      rw [div_le UQ_pos]
      have h2 := cast_le.2 (show mval 4585925428558828667 * 900719925474099200 ≤ 36028797018963972 * U by decide +kernel)
      rw [cast_mul, cast_mul] at h2
      have e1 : ((900719925474099200 : Nat) : Rat) = 900719925474099200 := by decide +kernel
      have e2 : ((36028797018963972 : Nat) : Rat) = 36028797018963972 := by decide +kernel
      have e3 : 36028797018963972 / 900719925474099200 ≤ 1 / 25 + 8 / 10 * uu := by decide +kernel
      have := Rat.mul_le_mul_of_nonneg_right e3 (Rat.le_of_lt UQ_pos)
      grind
    have u2 : 1 / 25 - 8 / 10 * uu ≤ (mval 4585925428558828667 : Rat) / (U : Rat) := by
      rw [le_div UQ_pos]
      have h2 := cast_le.2 (show 36028797018963964 * U ≤ mval 4585925428558828667 * 900719925474099200 by decide +kernel)
      rw [cast_mul, cast_mul] at h2
      have e1 : ((900719925474099200 : Nat) : Rat) = 900719925474099200 := by decide +kernel
      have e2 : ((36028797018963964 : Nat) : Rat) = 36028797018963964 := by decide +kernel
      have e3 : 1 / 25 - 8 / 10 * uu ≤ 36028797018963964 / 900719925474099200 := by decide +kernel
      have := Rat.mul_le_mul_of_nonneg_right e3 (Rat.le_of_lt UQ_pos)
      grind
    rw [ab_le]
    constructor <;> grind
  | i + 1, hi => by
    obtain ⟨t, ht, h2⟩ := q_upto hS h1 hs0 hs i (by omega)
    obtain ⟨g0, g1⟩ := hq_size hs0 hs i (by omega)
    obtain ⟨c, hc⟩ : ∃ c, 23 - 2 * i = c := ⟨_, rfl⟩
    have hB := BG_big
    have hu : 0 < uu ∧ uu ≤ 1 / 1000000 := by decide +kernel
    have c1 : ((3 : Nat) : Rat) ≤ (c : Rat) := cast_le.2 (by omega)
    have e3 : ((3 : Nat) : Rat) = 3 := rfl
    rw [e3] at c1
    have k0 : 0 ≤ 1 / (c : Rat) ∧ 1 / (c : Rat) ≤ 1 / 3 := by
      constructor
      · rw [le_div (by grind)]; grind
      · rw [div_le (by grind)]; grind
    have hC := V.ofNat (k := c) (by omega)
    obtain ⟨d, hd, r1⟩ := V.unit1.div hC (by grind) (by rw [ab_pos k0.1]; grind)
    have us0 := Rat.mul_nonneg (Rat.le_of_lt hu.1) hs0
    have us : uu * s ≤ 1 / 1000000 * s := Rat.mul_le_mul_of_nonneg_right hu.2 hs0
    have a1 := ab_le.1 h1
    have a2 := ab_le.1 h2
    have s1 : ab s' ≤ 1 := by rw [ab_le]; constructor <;> grind
    have t1 : ab t ≤ 1 := by rw [ab_le]; constructor <;> grind
    have st : ab (s' * t) ≤ 1 := by
      rw [ab_mul]
      have := mul_mono (ab_nn s') s1 (ab_nn t) t1
      grind
    obtain ⟨m, hm, r2⟩ := hS.mul ht (by grind)
    have het := et_uu
    have dm : ab (d + m) ≤ 5 := by
      have k1 := Rat.mul_le_mul_of_nonneg_left st (Rat.le_of_lt hu.1)
      have k2 := Rat.mul_le_mul_of_nonneg_left k0.2 (Rat.le_of_lt hu.1)
      rw [ab_pos k0.1] at r1
      have c1 := ab_le.1 r1
      have c2 := ab_le.1 r2
      have c3 := ab_le.1 st
      rw [ab_le]
      constructor <;> grind
    obtain ⟨t', ht', r3⟩ := hd.add hm (by grind)
    refine ⟨t', ?_, ?_⟩
    · show V (fadd (fdiv 4607182418800017408 (ofInt (23 - 2 * (i : Int)))) (fmul S (qSeq S i))) t'
      rw [show (23 : Int) - 2 * (i : Int) = (c : Int) by omega]
      exact ht'
    · show ab (t' - (1 / ((23 - 2 * i : Nat) : Rat) + s * hq s i)) ≤ _
      rw [hc]
      exact q_err hs0 hs h1 h2 g0 g1 k0.1 k0.2 r1 r2 r3
/-- THE ODD SUM beside the true one. -/
theorem odd_val {f : Nat} {u : Rat} (hf : V f u) (hu : ab u ≤ 172 / 1000) (h0 : pw (-250) ≤ ab u) : ∃ o, V (oddF f) o ∧ ab (o - 2 * AT u 13) ≤ 1067 / 1000 * (uu * (2 * ab u)) := by
  have hB := BG_big
  have huu : 0 < uu ∧ uu ≤ 1 / 1000000 := by decide +kernel
  have n := ab_nn u
  have p250 : pw (-500) = pw (-250) * pw (-250) := by rw [← pw_add]; rfl
  have pp := pw_pos (-250)
  have s0 : 0 ≤ u * u ∧ u * u = ab u * ab u := by
    have e : u * u = ab u * ab u := by
      rcases (show 0 ≤ u ∨ u < 0 by grind) with q | q
      · rw [ab_pos q]
      · have : ab u = -u := by unfold ab; grind
        rw [this]; grind
    exact ⟨by rw [e]; exact Rat.mul_nonneg n n, e⟩
  have s1 : u * u ≤ 296 / 10000 := by
    have := mul_mono n hu n hu
    rw [s0.2]; grind
  have s2 : pw (-500) ≤ u * u := by
    rw [s0.2, p250]
    exact mul_mono (Rat.le_of_lt pp) h0 (Rat.le_of_lt pp) h0
  have het := et_500
  obtain ⟨s', hS, r1⟩ := hf.mul hf (by rw [ab_pos s0.1]; grind)
  rw [ab_pos s0.1] at r1
  have us := Rat.mul_le_mul_of_nonneg_left s2 (Rat.le_of_lt huu.1)
  have us0 := Rat.mul_nonneg (Rat.le_of_lt huu.1) s0.1
  have r1' : ab (s' - u * u) ≤ 1001 / 1000 * (uu * (u * u)) := by grind
  obtain ⟨q, hQ, r2⟩ := q_upto hS r1' s0.1 s1 11 (by omega)
  obtain ⟨g0, g1⟩ := hq_size s0.1 s1 11 (by omega)
  obtain ⟨s, hs⟩ : ∃ s, s = u * u := ⟨_, rfl⟩
  have hA := AT_hq u
  rw [← hs] at s0 s1 s2 r1' us us0 r2 g0 g1 hA
  clear r1
  obtain ⟨g, hg⟩ : ∃ g, g = hq s 11 := ⟨_, rfl⟩
  rw [← hg] at r2 g0 g1 hA
  have k1 : uu * s ≤ 1 / 1000000 * s := Rat.mul_le_mul_of_nonneg_right huu.2 s0.1
  have a1 := ab_le.1 r1'
  have a2 := ab_le.1 r2
  have sb : ab s' ≤ 1001 / 1000 * s := by rw [ab_le]; constructor <;> grind
  have qb : ab q ≤ 346 / 1000 := by rw [ab_le]; constructor <;> grind
  have sq : ab (s' * q) ≤ 347 / 1000 * s := by
    rw [ab_mul]
    have := mul_mono (ab_nn _) sb (ab_nn _) qb
    grind
  obtain ⟨T, hT, r3⟩ := hS.mul hQ (by grind)
  have kk := Rat.mul_le_mul_of_nonneg_left sq (Rat.le_of_lt huu.1)
  -- T beside s g
  have st2 : ab (s' * q - s * g) ≤ 116 / 100 * (uu * s) := by
    have e : s' * q - s * g = s' * (q - g) + (s' - s) * g := by grind
    rw [e]
    have b1 := ab_add (s' * (q - g)) ((s' - s) * g)
    have b2 : ab (s' * (q - g)) ≤ 1001 / 1000 * s * (8 / 10 * uu) := by rw [ab_mul]; exact mul_mono (ab_nn _) sb (ab_nn _) r2
    have b3 : ab ((s' - s) * g) ≤ 1001 / 1000 * (uu * s) * (345 / 1000) := by
      rw [ab_mul, ab_pos g0]
      exact mul_mono (ab_nn _) r1' g0 g1
    grind
  have T1 : ab (T - s * g) ≤ 152 / 100 * (uu * s) := by
    have := ab_tri T (s' * q) (s * g)
    grind
  have sg : 0 ≤ s * g ∧ s * g ≤ 345 / 1000 * s := ⟨Rat.mul_nonneg s0.1 g0, by have := Rat.mul_le_mul_of_nonneg_left g1 s0.1; grind⟩
  have T2 : ab T ≤ 346 / 1000 * s := by
    have := ab_le.1 T1
    rw [ab_le]
    constructor <;> grind
  have hA2 := hf.twice (Rat.le_trans hu (by decide +kernel))
  have ab2 : ab (2 * u) = 2 * ab u := by rw [ab_mul]; have : ab (2 : Rat) = 2 := by decide +kernel
                                         rw [this]
  have mT : ab (2 * u * T) ≤ 2 * ab u * (103 / 10000) := by
    rw [ab_mul, ab2]
    exact Rat.mul_le_mul_of_nonneg_left (by grind) (by grind)
  obtain ⟨M, hM, r4⟩ := hA2.mul hT (by grind)
  have he2 : et ≤ 1 / 1000000 * (uu * (2 * ab u)) := by
    have x1 : pw (-500) ≤ pw (-250) := pw_mono (by decide)
    have := Rat.mul_le_mul_of_nonneg_left (show pw (-500) ≤ 2 * ab u by grind) (Rat.le_of_lt huu.1)
    grind
  have k4 := Rat.mul_le_mul_of_nonneg_left mT (Rat.le_of_lt huu.1)
  have p2 := Rat.mul_nonneg (Rat.le_of_lt huu.1) (show 0 ≤ 2 * ab u by grind)
  have us3 : uu * s ≤ 296 / 10000 * uu := by have := Rat.mul_le_mul_of_nonneg_left s1 (Rat.le_of_lt huu.1); grind
  have M1 : ab (M - 2 * u * (s * g)) ≤ 56 / 1000 * (uu * (2 * ab u)) := by
    have x1 := ab_tri M (2 * u * T) (2 * u * (s * g))
    have x2 : ab (2 * u * T - 2 * u * (s * g)) ≤ 2 * ab u * (152 / 100 * (296 / 10000 * uu)) := by
      rw [show 2 * u * T - 2 * u * (s * g) = 2 * u * (T - s * g) by grind, ab_mul, ab2]
      exact Rat.mul_le_mul_of_nonneg_left (by grind) (by grind)
    have e : uu * (2 * ab u * (103 / 10000)) = 103 / 10000 * (uu * (2 * ab u)) := by grind
    have e2 : 2 * ab u * (152 / 100 * (296 / 10000 * uu)) = 152 / 100 * (296 / 10000) * (uu * (2 * ab u)) := by grind
    rw [e] at k4
    rw [e2] at x2
    generalize uu * (2 * ab u) = P at *
    generalize ab (M - 2 * u * (s * g)) = A1 at *
    generalize ab (M - 2 * u * T) = A2 at *
    generalize ab (2 * u * T - 2 * u * (s * g)) = A3 at *
    clear hA mT sg T1 T2 st2 sq kk sb qb a1 a2
    grind
  have msum : ab (2 * u + 2 * u * (s * g)) ≤ 2 * ab u * (10103 / 10000) := by
    rw [show 2 * u + 2 * u * (s * g) = 2 * u * (1 + s * g) by grind, ab_mul, ab2, ab_pos (show 0 ≤ 1 + s * g by grind)]
    exact Rat.mul_le_mul_of_nonneg_left (by grind) (by grind)
  have k5 := Rat.mul_le_mul_of_nonneg_right huu.2 (show 0 ≤ 2 * ab u by grind)
  have msum2 : ab (2 * u + M) ≤ 2 * ab u * (10104 / 10000) := by
    have x1 := ab_add (2 * u + 2 * u * (s * g)) (M - 2 * u * (s * g))
    rw [show 2 * u + 2 * u * (s * g) + (M - 2 * u * (s * g)) = 2 * u + M by grind] at x1
    generalize uu * (2 * ab u) = P at *
    grind
  obtain ⟨o, ho, r5⟩ := hA2.add hM (by
    refine Rat.le_trans msum2 ?_
    clear msum msum2 M1 k4 r4 mT
    grind)
  refine ⟨o, ho, ?_⟩
  have k6 := Rat.mul_le_mul_of_nonneg_left msum2 (Rat.le_of_lt huu.1)
  have x1 := ab_tri o (2 * u + M) (2 * AT u 13)
  have e : 2 * u + M - 2 * AT u 13 = M - 2 * u * (s * g) := by rw [hA]; grind
  rw [e] at x1
  have e2 : uu * (2 * ab u * (10104 / 10000)) = 10104 / 10000 * (uu * (2 * ab u)) := by grind
  rw [e2] at k6
  generalize uu * (2 * ab u) = P at *
  generalize ab (o - 2 * AT u 13) = A1 at *
  generalize ab (o - (2 * u + M)) = A2 at *
  generalize ab (M - 2 * u * (s * g)) = A3 at *
  clear hA mT sg T1 T2 st2 sq kk sb qb a1 a2 msum msum2 e e2
  grind
end Go.Proofs.YtcfkhhnkboealaaDoor
