/- The exponential and the logarithm by value (plain parts, 3). No text of the program. -/
import Derived.Test.YtcfkhhnkboealaaEx2
namespace Go.Proofs.Ytcfkhhnkboealaa
open Go.RowKit
set_option linter.unusedVariables false
set_option linter.unusedSimpArgs false
set_option maxRecDepth 100000
set_option maxHeartbeats 4000000
open Turns Sizes
/-- THE ODD SUM beside the true one. -/
theorem odd_val {f : Nat} {u : Rat} (hf : V f u) (hu : ab u ≤ 172 / 1000) (h0 : pw (-250) ≤ ab u) : ∃ o, V (oddF f) o ∧ ab (o - 2 * AT u 13) ≤ 1067 / 1000 * (uu * (2 * ab u)) := by
  have hB := BG_big
  have huu : 0 < uu ∧ uu ≤ 1 / 1000000 := by decide +kernel
  have n := ab_nn u
  have p250 : pw (-500) = pw (-250) * pw (-250) := by rw [← pw_add]; rfl
  have pp := pw_pos (-250)
  have s0 : 0 ≤ u * u ∧ u * u = ab u * ab u := by
    have e : u * u = ab u * ab u := by
      rcases (show 0 ≤ u ∨ u < 0 by grind) with q | q
      · rw [ab_pos q]
      · have : ab u = -u := by unfold ab; grind
        rw [this]; grind
    exact ⟨by rw [e]; exact Rat.mul_nonneg n n, e⟩
  have s1 : u * u ≤ 296 / 10000 := by
    have := mul_mono n hu n hu
    rw [s0.2]; grind
  have s2 : pw (-500) ≤ u * u := by
    rw [s0.2, p250]
    exact mul_mono (Rat.le_of_lt pp) h0 (Rat.le_of_lt pp) h0
  have het := et_500
  obtain ⟨s', hS, r1⟩ := hf.mul hf (by rw [ab_pos s0.1]; grind)
  rw [ab_pos s0.1] at r1
  have us := Rat.mul_le_mul_of_nonneg_left s2 (Rat.le_of_lt huu.1)
  have us0 := Rat.mul_nonneg (Rat.le_of_lt huu.1) s0.1
  have r1' : ab (s' - u * u) ≤ 1001 / 1000 * (uu * (u * u)) := by grind
  obtain ⟨q, hQ, r2⟩ := q_upto hS r1' s0.1 s1 11 (by omega)
  obtain ⟨g0, g1⟩ := hq_size s0.1 s1 11 (by omega)
  obtain ⟨s, hs⟩ : ∃ s, s = u * u := ⟨_, rfl⟩
  have hA := AT_hq u
  rw [← hs] at s0 s1 s2 r1' us us0 r2 g0 g1 hA
  clear r1
  obtain ⟨g, hg⟩ : ∃ g, g = hq s 11 := ⟨_, rfl⟩
  rw [← hg] at r2 g0 g1 hA
  have k1 : uu * s ≤ 1 / 1000000 * s := Rat.mul_le_mul_of_nonneg_right huu.2 s0.1
  have a1 := ab_le.1 r1'
  have a2 := ab_le.1 r2
  have sb : ab s' ≤ 1001 / 1000 * s := by rw [ab_le]; constructor <;> grind
  have qb : ab q ≤ 346 / 1000 := by rw [ab_le]; constructor <;> grind
  have sq : ab (s' * q) ≤ 347 / 1000 * s := by
    rw [ab_mul]
    have := mul_mono (ab_nn _) sb (ab_nn _) qb
    grind
  obtain ⟨T, hT, r3⟩ := hS.mul hQ (by grind)
  have kk := Rat.mul_le_mul_of_nonneg_left sq (Rat.le_of_lt huu.1)
  -- T beside s g
  have st2 : ab (s' * q - s * g) ≤ 116 / 100 * (uu * s) := by
    have e : s' * q - s * g = s' * (q - g) + (s' - s) * g := by grind
    rw [e]
    have b1 := ab_add (s' * (q - g)) ((s' - s) * g)
    have b2 : ab (s' * (q - g)) ≤ 1001 / 1000 * s * (8 / 10 * uu) := by rw [ab_mul]; exact mul_mono (ab_nn _) sb (ab_nn _) r2
    have b3 : ab ((s' - s) * g) ≤ 1001 / 1000 * (uu * s) * (345 / 1000) := by
      rw [ab_mul, ab_pos g0]
      exact mul_mono (ab_nn _) r1' g0 g1
    grind
  have T1 : ab (T - s * g) ≤ 152 / 100 * (uu * s) := by
    have := ab_tri T (s' * q) (s * g)
    grind
  have sg : 0 ≤ s * g ∧ s * g ≤ 345 / 1000 * s := ⟨Rat.mul_nonneg s0.1 g0, by have := Rat.mul_le_mul_of_nonneg_left g1 s0.1; grind⟩
  have T2 : ab T ≤ 346 / 1000 * s := by
    have := ab_le.1 T1
    rw [ab_le]
    constructor <;> grind
  have hA2 := hf.twiceU (Rat.le_trans hu (by decide +kernel))
  have ab2 : ab (2 * u) = 2 * ab u := by rw [ab_mul]; have : ab (2 : Rat) = 2 := by decide +kernel
                                         rw [this]
  have mT : ab (2 * u * T) ≤ 2 * ab u * (103 / 10000) := by
    rw [ab_mul, ab2]
    exact Rat.mul_le_mul_of_nonneg_left (by grind) (by grind)
  obtain ⟨M, hM, r4⟩ := hA2.mul hT (by grind)
  have he2 : et ≤ 1 / 1000000 * (uu * (2 * ab u)) := by
    have x1 : pw (-500) ≤ pw (-250) := pw_mono (by decide)
    have := Rat.mul_le_mul_of_nonneg_left (show pw (-500) ≤ 2 * ab u by grind) (Rat.le_of_lt huu.1)
    grind
  have k4 := Rat.mul_le_mul_of_nonneg_left mT (Rat.le_of_lt huu.1)
  have p2 := Rat.mul_nonneg (Rat.le_of_lt huu.1) (show 0 ≤ 2 * ab u by grind)
  have us3 : uu * s ≤ 296 / 10000 * uu := by have := Rat.mul_le_mul_of_nonneg_left s1 (Rat.le_of_lt huu.1); grind
  have M1 : ab (M - 2 * u * (s * g)) ≤ 56 / 1000 * (uu * (2 * ab u)) := by
    have x1 := ab_tri M (2 * u * T) (2 * u * (s * g))
    have x2 : ab (2 * u * T - 2 * u * (s * g)) ≤ 2 * ab u * (152 / 100 * (296 / 10000 * uu)) := by
      rw [show 2 * u * T - 2 * u * (s * g) = 2 * u * (T - s * g) by grind, ab_mul, ab2]
      exact Rat.mul_le_mul_of_nonneg_left (by grind) (by grind)
    have e : uu * (2 * ab u * (103 / 10000)) = 103 / 10000 * (uu * (2 * ab u)) := by grind
    have e2 : 2 * ab u * (152 / 100 * (296 / 10000 * uu)) = 152 / 100 * (296 / 10000) * (uu * (2 * ab u)) := by grind
    rw [e] at k4
    rw [e2] at x2
    generalize uu * (2 * ab u) = P at *
    generalize ab (M - 2 * u * (s * g)) = A1 at *
    generalize ab (M - 2 * u * T) = A2 at *
    generalize ab (2 * u * T - 2 * u * (s * g)) = A3 at *
    clear hA mT sg T1 T2 st2 sq kk sb qb a1 a2
    grind
  have msum : ab (2 * u + 2 * u * (s * g)) ≤ 2 * ab u * (10103 / 10000) := by
    rw [show 2 * u + 2 * u * (s * g) = 2 * u * (1 + s * g) by grind, ab_mul, ab2, ab_pos (show 0 ≤ 1 + s * g by grind)]
    exact Rat.mul_le_mul_of_nonneg_left (by grind) (by grind)
  have k5 := Rat.mul_le_mul_of_nonneg_right huu.2 (show 0 ≤ 2 * ab u by grind)
  have msum2 : ab (2 * u + M) ≤ 2 * ab u * (10104 / 10000) := by
    have x1 := ab_add (2 * u + 2 * u * (s * g)) (M - 2 * u * (s * g))
    rw [show 2 * u + 2 * u * (s * g) + (M - 2 * u * (s * g)) = 2 * u + M by grind] at x1
    generalize uu * (2 * ab u) = P at *
    grind
  obtain ⟨o, ho, r5⟩ := hA2.add hM (by
    refine Rat.le_trans msum2 ?_
    clear msum msum2 M1 k4 r4 mT
    grind)
  refine ⟨o, ho, ?_⟩
  have k6 := Rat.mul_le_mul_of_nonneg_left msum2 (Rat.le_of_lt huu.1)
  have x1 := ab_tri o (2 * u + M) (2 * AT u 13)
  have e : 2 * u + M - 2 * AT u 13 = M - 2 * u * (s * g) := by rw [hA]; grind
  rw [e] at x1
  have e2 : uu * (2 * ab u * (10104 / 10000)) = 10104 / 10000 * (uu * (2 * ab u)) := by grind
  rw [e2] at k6
  generalize uu * (2 * ab u) = P at *
  generalize ab (o - 2 * AT u 13) = A1 at *
  generalize ab (o - (2 * u + M)) = A2 at *
  generalize ab (M - 2 * u * (s * g)) = A3 at *
  clear hA mT sg T1 T2 st2 sq kk sb qb a1 a2 msum msum2 e e2
  grind
theorem V.partv {f : Nat} {a : Rat} (hf : V f a) (ha : 0 < a) : ∃ p, V (partF f) p ∧ 1 / 2 ≤ p ∧ p < 1 ∧ a = p * pw (partE f) ∧ -1100 ≤ partE f ∧ partE f ≤ 1024 := by
  have hn0 : a ≠ 0 := by grind
  obtain ⟨b1, b2, b3, b4⟩ := hf.parts hn0
  rw [ab_pos (Rat.le_of_lt ha)] at b1 b2
  have hr0 := hf.nz hn0
  have hfr := fin_rung hf.fin
  have hsg : sgn f = false := (word_facts (posW hf ha)).2.1
  obtain ⟨r, n, hp, h1, h2⟩ := parts_exist (s := sgn f) (Nat.pos_of_ne_zero hr0) hfr
  obtain ⟨e1', e2⟩ := parts_end hf.lt hf.fin hr0 hp h1 h2
  have hV := V.word (s := sgn f) (r := r) (by omega)
  rw [← e1', hsg] at hV
  have hsz := hf.size
  rw [ab_pos (Rat.le_of_lt ha)] at hsz
  have e5 : a * pw (-partE f) = (mval r : Rat) / (U : Rat) := by
    rw [e2, hsz]
    rcases hp with ⟨k, rfl, hk, hk2⟩ | ⟨j, rfl, hj⟩
    · have e3 : mval (rung f) = mval r * 2 ^ k := by rw [← hk]; exact mval_up k (by omega)
      have e4 := pw_negnat k
      rw [e3, cast_mul]
      generalize ((2 ^ k : Nat) : Rat) = D at *
      generalize pw (-(k : Int)) = p at *
      have := UQ_ne
      grind
    · have e3 : mval r = mval (rung f) * 2 ^ j := by rw [hj]; exact mval_dblN j _
      rw [e3, cast_mul, show - -(j : Int) = (j : Int) by omega, pw_nat]
      have := UQ_ne
      grind
  have hV2 : V (partF f) (a * pw (-partE f)) := by rw [e5]; exact hV
  refine ⟨_, hV2, b1, b2, ?_, b3, b4⟩
  have : pw (-partE f) * pw (partE f) = 1 := by rw [← pw_add, show -partE f + partE f = 0 by omega, pw_zero]
  grind
theorem pw_U : ∀ k : Nat, k = 1021 → pw (-53) * (U : Rat) = ((2 ^ k : Nat) : Rat) := by
  intro k hk
  have h : U = 2 ^ 53 * 2 ^ k := by rw [← Nat.pow_add, U_def]; congr 1; rw [e1_eq]; omega
  rw [h, cast_mul]
  have : pw (-53) * ((2 ^ 53 : Nat) : Rat) = 1 := by decide +kernel
  grind
theorem sub_one_exact {M : Nat} {m : Rat} (hM : V M m) (h1 : 1 / 2 ≤ m) (h2 : m < 2) : V (fsub M 4607182418800017408) (m - 1) ∧ (m = 1 ∨ pw (-53) ≤ ab (m - 1)) := by
  have hl := posW hM (show 0 < m by grind)
  have hw := below_word hM h2 hl word_two
  have ev := (posV hM hl).2.1
  have hlo : 4602678819172646912 ≤ M := by
    rcases Nat.lt_or_ge M 4602678819172646912 with q | q
    · exfalso
      have hh := V.half.uniq (V.pos (by decide))
      have m1 := mval_lt q
      have m2 : (mval M : Rat) < (mval 4602678819172646912 : Rat) := by exact_mod_cast m1
      rw [hh, ev, div_le UQ_pos, div_self_mul _ UQ_ne] at h1
      grind
    · exact q
  obtain ⟨L, hL⟩ : ∃ L, L = M / 4503599627370496 - 1 := ⟨_, rfl⟩
  obtain ⟨q, hq⟩ : ∃ q, q = M - L * 4503599627370496 := ⟨_, rfl⟩
  have hr : M = L * 4503599627370496 + q := by omega
  have b1 : 4503599627370496 ≤ q := by omega
  have b2 : q < 9007199254740992 := by omega
  have hLr : L = 1021 ∨ L = 1022 := by omega
  have e0 : mval M = q * 2 ^ L := by rw [hr]; exact mval_plc (by omega) (.inr b1)
  obtain ⟨P, hP⟩ : ∃ P, P = 2 ^ (e1 - L) := ⟨_, rfl⟩
  have hP2 : P = 4503599627370496 ∨ P = 9007199254740992 := by
    rw [hP, e1_eq]
    rcases hLr with h | h <;> rw [h] <;> decide
  have hU : U = P * 2 ^ L := by rw [hP, ← Nat.pow_add, U_def]; congr 1; rw [e1_eq]; omega
  obtain ⟨a1, a2, a3, _, a5, _⟩ := word_facts hl
  have s1 : sval 4607182418800017408 = (U : Int) := by
    rw [(word_facts (r := 4607182418800017408) (by decide)).2.2.2.2.1, mval_oneT]
  have ez : sval M - sval 4607182418800017408 = ((q : Int) - (P : Int)) * ((2 ^ L : Nat) : Int) := by
    rw [a5, s1, e0, hU]
    push_cast
    generalize (2 : Int) ^ L = X
    rw [Int.sub_mul]
  have ena : (sval M - sval 4607182418800017408).natAbs = ((q : Int) - (P : Int)).natAbs * 2 ^ L := by
    rw [ez, Int.natAbs_mul, Int.natAbs_natCast]
  have hx := rnd_exact (m := ((q : Int) - (P : Int)).natAbs) (k := L) (by omega) (by omega)
  rw [← ena] at hx
  obtain ⟨f1, f2⟩ := fsub_exact hM.fin V.unit1.fin (by decide) hx
  have hB := BG_big
  obtain ⟨c, hc, _⟩ := hM.sub V.unit1 (by rw [ab_le]; clear hx ena ez; generalize BG = B at *; constructor <;> grind)
  have ec : c = m - 1 := by
    rw [← hc.val]
    unfold qv
    rw [f2, a5, s1, ev]
    have e3 : (((mval M : Int) - (U : Int) : Int) : Rat) = (mval M : Rat) - (U : Rat) := by push_cast; rfl
    rw [e3]
    have := UQ_ne
    grind
  rw [ec] at hc
  refine ⟨hc, ?_⟩
  by_cases h0 : q = P
  · left
    rw [ev, e0, hU, h0]
    have hne : ((P * 2 ^ L : Nat) : Rat) ≠ 0 := by rw [← hU]; exact UQ_ne
    grind
  · right
    have hsz := hc.size
    have hfr : fin (fsub M 4607182418800017408) = true := hc.fin
    rw [hsz]
    have er : mval (rung (fsub M 4607182418800017408)) = ((q : Int) - (P : Int)).natAbs * 2 ^ L := by
      rw [← ena, ← f2]
      rcases sval_cases (fsub M 4607182418800017408) with ⟨_, b⟩ | ⟨_, b⟩ <;> rw [b] <;> simp
    obtain ⟨k, hk⟩ : ∃ k, k = 1021 := ⟨_, rfl⟩
    rw [er, le_div UQ_pos, pw_U k hk]
    have : 2 ^ k ≤ ((q : Int) - (P : Int)).natAbs * 2 ^ L := by
      have h5 : 1 * 2 ^ k ≤ ((q : Int) - (P : Int)).natAbs * 2 ^ L := Nat.mul_le_mul (by omega) (Nat.pow_le_pow_right (by decide) (by omega))
      rwa [Nat.one_mul] at h5
    exact cast_le.2 this
/-- the parts as the logarithm takes them. -/
theorem log_partsU {f : Nat} {a : Rat} (hf : V f a) (ha : 0 < a) : ∃ m, V (logM f) m ∧ 7071 / 10000 ≤ m ∧ m ≤ 141422 / 100000 ∧ a = m * pw (logE f) ∧ -1101 ≤ logE f ∧ logE f ≤ 1024 := by
  obtain ⟨p, hp, p1, p2, p3, p4, p5⟩ := hf.partv ha
  have hpl := posW hp (show 0 < p by grind)
  have ev := (posV hp hpl).2.1
  have hfl : flt (partF f) 4604544271217802189 = decide (partF f < 4604544271217802189) := flt_words hpl (by decide)
  unfold logM logE
  rw [hfl]
  by_cases h : partF f < 4604544271217802189
  · rw [decide_eq_true h, if_pos rfl, if_pos rfl]
    have h2 := hp.twiceU (by rw [ab_pos (by grind)]; grind)
    have h3 : p ≤ 70711 / 100000 := by
      rw [ev, div_le UQ_pos]
      have h4 : mval 4604544271217802189 * 100000 ≤ 70711 * U := by decide +kernel
      have h5 := cast_le.2 h4
      have h6 := cast_le.2 (mval_le_iff.2 (Nat.le_of_lt h))
      rw [cast_mul, cast_mul] at h5
      have e1 : ((100000 : Nat) : Rat) = 100000 := by decide +kernel
      have e2 : ((70711 : Nat) : Rat) = 70711 := by decide +kernel
      grind
    refine ⟨2 * p, h2, by grind, by grind, ?_, by omega, by omega⟩
    rw [p3]
    have : pw (partE f) = 2 * pw (partE f - 1) := by
      rw [show partE f = 1 + (partE f - 1) by omega, pw_add, show 1 + (partE f - 1) - 1 = partE f - 1 by omega]
      have : pw 1 = 2 := by decide +kernel
      rw [this]
    rw [this]
    grind
  · rw [decide_eq_false h, if_neg (by decide), if_neg (by decide)]
    have h3 : 7071 / 10000 ≤ p := by
      rw [ev, le_div UQ_pos]
      have h4 : 7071 * U ≤ mval 4604544271217802189 * 10000 := by decide +kernel
      have h5 := cast_le.2 h4
      have h6 := cast_le.2 (mval_le_iff.2 (show 4604544271217802189 ≤ partF f by omega))
      rw [cast_mul, cast_mul] at h5
      have e1 : ((10000 : Nat) : Rat) = 10000 := by decide +kernel
      have e2 : ((7071 : Nat) : Rat) = 7071 := by decide +kernel
      grind
    exact ⟨p, hp, h3, by grind, p3, by omega, by omega⟩
/-- quotients beside the true ones. -/
theorem quot_near {x D d q : Rat} (hD : 1 / 2 ≤ D) (hd : ab (d - D) ≤ uu * ab D) (hq : ab (q - x / d) ≤ uu * ab (x / d) + et) (hx : et ≤ 1 / 100000 * (uu * ab (x / D))) : ab (q - x / D) ≤ 20001 / 10000 * (uu * ab (x / D)) := by
  have hu : 0 < uu ∧ uu ≤ 1 / 1000000 := by decide +kernel
  rw [ab_pos (show 0 ≤ D by grind)] at hd
  have k1 := Rat.mul_le_mul_of_nonneg_right hu.2 (show 0 ≤ D by grind)
  have hd' := ab_le.1 hd
  have d0 : 0 < d := by grind
  obtain ⟨y, hy⟩ : ∃ y, y = x / D := ⟨_, rfl⟩
  obtain ⟨z, hz⟩ : ∃ z, z = x / d := ⟨_, rfl⟩
  have ey : y * D = x := by rw [hy]; exact div_self_mul _ (by grind)
  have ez : z * d = x := by rw [hz]; exact div_self_mul _ (by grind)
  rw [← hz] at hq
  rw [← hy] at hx ⊢
  -- z - y = y (D - d) / d
  have e : (z - y) * d = y * (D - d) := by grind
  have e2 : ab (z - y) * d ≤ ab y * (uu * D) := by
    have : ab (z - y) * d = ab y * ab (D - d) := by rw [← ab_mul, ← e, ab_mul, ab_pos (Rat.le_of_lt d0)]
    rw [this, ab_comm D d]
    exact Rat.mul_le_mul_of_nonneg_left hd (ab_nn y)
  have dD : D * (999999 / 1000000) ≤ d := by grind
  have n := ab_nn y
  have n2 := ab_nn (z - y)
  have h1 : ab (z - y) ≤ 1000002 / 1000000 * (uu * ab y) := by
    have m1 := Rat.mul_le_mul_of_nonneg_left dD n2
    have hDp : 0 < D * (999999 / 1000000) := by grind
    refine Rat.le_of_mul_le_mul_right (c := D * (999999 / 1000000)) ?_ hDp
    refine Rat.le_trans m1 (Rat.le_trans e2 ?_)
    have p := Rat.mul_nonneg (Rat.mul_nonneg (Rat.le_of_lt hu.1) n) (show 0 ≤ D by grind)
    grind
  have p := Rat.mul_nonneg (Rat.le_of_lt hu.1) n
  have k2 := Rat.mul_le_mul_of_nonneg_right hu.2 n
  have h2 : ab z ≤ 1000002 / 1000000 * ab y := by
    have := ab_tri z y 0
    rw [show z - 0 = z by grind, show y - 0 = y by grind] at this
    grind
  have h3 := Rat.mul_le_mul_of_nonneg_left h2 (Rat.le_of_lt hu.1)
  have h4 := ab_tri q z y
  grind
theorem GS_le {x : Rat} (h : 0 ≤ x) (h2 : x ≤ 172 / 1000) : GS x 13 ≤ 10306 / 10000 := by
  have g := GS_nn h 13
  have hs := GS_sum x 13
  have hp := pn_nn h (2 * 13)
  have x2 := mul_mono h h2 h h2
  rcases (show GS x 13 ≤ 10306 / 10000 ∨ 10306 / 10000 < GS x 13 by grind) with q | q
  · exact q
  · exfalso
    have := Rat.mul_le_mul_of_nonneg_right (Rat.le_of_lt q) (show 0 ≤ 1 - x * x by grind)
    grind
/-- the sum's change, where the sign stays. -/
theorem AT_near {x u : Rat} (hu : ab u ≤ 1719 / 10000) (h : ab (x - u) ≤ 1 / 100000 * ab u) : ab (2 * AT x 13 - 2 * AT u 13) ≤ 10306 / 10000 * (2 * ab (x - u)) := by
  have pos : ∀ y v : Rat, 0 ≤ v → v ≤ y → y ≤ 172 / 1000 → ab (2 * AT y 13 - 2 * AT v 13) ≤ 10306 / 10000 * (2 * (y - v)) ∧ ab (2 * AT v 13 - 2 * AT y 13) ≤ 10306 / 10000 * (2 * (y - v)) := by
    intro y v hv hy hy2
    obtain ⟨a, b⟩ := AT_diff hv hy 13
    have g := GS_le (show 0 ≤ y by grind) hy2
    have g0 := GS_nn hv 13
    have m := Rat.mul_le_mul_of_nonneg_left g (show 0 ≤ y - v by grind)
    have m0 := Rat.mul_nonneg (show 0 ≤ y - v by grind) g0
    constructor <;> (rw [ab_le]; constructor <;> grind)
  have hu' := ab_le.1 hu
  have h' := ab_le.1 h
  rcases (show 0 ≤ u ∨ u < 0 by grind) with q | q
  · rw [ab_pos q] at h' hu
    rcases (show u ≤ x ∨ x < u by grind) with r | r
    · rw [ab_pos (show 0 ≤ x - u by grind)]
      exact (pos x u q r (by grind)).1
    · rw [ab_comm x u, ab_pos (show 0 ≤ u - x by grind)]
      exact (pos u x (by grind) (Rat.le_of_lt r) (by grind)).2
  · have e : ab u = -u := by unfold ab; grind
    rw [e] at h' hu
    have eA : 2 * AT x 13 - 2 * AT u 13 = 2 * AT (-u) 13 - 2 * AT (-x) 13 := by rw [AT_neg, AT_neg]; grind
    rw [eA]
    rcases (show -u ≤ -x ∨ -x < -u by grind) with r | r
    · rw [ab_comm x u, ab_pos (show 0 ≤ u - x by grind), show u - x = -x - -u by grind]
      exact (pos (-x) (-u) (by grind) r (by grind)).2
    · rw [ab_pos (show 0 ≤ x - u by grind), show x - u = -u - -x by grind]
      exact (pos (-u) (-x) (by grind) (Rat.le_of_lt r) (by grind)).1
/-- the odd sum of a float near to u. -/
theorem odd_near {f : Nat} {x u : Rat} (hf : V f x) (hu : ab u ≤ 1719 / 10000) (h0 : pw (-249) ≤ ab u) (h : ab (x - u) ≤ 20001 / 10000 * (uu * ab u)) : ∃ o, V (oddF f) o ∧ ab (o - 2 * AT u 13) ≤ 313 / 100 * (uu * (2 * ab u)) := by
  have huu : 0 < uu ∧ uu ≤ 1 / 100000000 := by decide +kernel
  have n := ab_nn u
  have k := Rat.mul_le_mul_of_nonneg_right huu.2 n
  have p := Rat.mul_nonneg (Rat.le_of_lt huu.1) n
  have hx5 : ab (x - u) ≤ 1 / 100000 * ab u := by
    generalize ab (x - u) = B at *
    generalize uu * ab u = P at *
    generalize ab u = U1 at *
    grind
  have t1 := ab_tri x u 0
  rw [show x - 0 = x by grind, show u - 0 = u by grind] at t1
  have t2 := ab_tri u x 0
  rw [show x - 0 = x by grind, show u - 0 = u by grind, ab_comm u x] at t2
  have p2 : pw (-249) = 2 * pw (-250) := by
    rw [show (-249 : Int) = 1 + -250 by omega, pw_add]
    have : pw 1 = 2 := by decide +kernel
    rw [this]
  have pp := pw_pos (-250)
  obtain ⟨o, ho, r⟩ := odd_val hf (by grind) (by grind)
  refine ⟨o, ho, ?_⟩
  have a := AT_near hu hx5
  have x2 := ab_tri o (2 * AT x 13) (2 * AT u 13)
  have k2 := Rat.mul_le_mul_of_nonneg_left t1 (Rat.le_of_lt huu.1)
  have k3 := Rat.mul_le_mul_of_nonneg_left k (Rat.le_of_lt huu.1)
  generalize ab (o - 2 * AT u 13) = A1 at *
  generalize ab (o - 2 * AT x 13) = A2 at *
  generalize ab (2 * AT x 13 - 2 * AT u 13) = A3 at *
  generalize ab (x - u) = B at *
  generalize ab x = X at *
  generalize ab u = U1 at *
  have m := Rat.mul_le_mul_of_nonneg_left h (Rat.le_of_lt huu.1)
  have e1 : uu * (20001 / 10000 * (uu * U1)) = 20001 / 10000 * (uu * (uu * U1)) := by grind
  have e2 : uu * (B + U1) = uu * B + uu * U1 := by grind
  have e3 : uu * (1 / 100000000 * U1) = 1 / 100000000 * (uu * U1) := by grind
  rw [e1] at m
  rw [e2] at k2
  rw [e3] at k3
  have e4 : uu * (2 * X) = 2 * (uu * X) := by grind
  have e5 : uu * (2 * U1) = 2 * (uu * U1) := by grind
  rw [e4] at r
  rw [e5]
  generalize uu * (uu * U1) = Q at *
  generalize uu * X = R at *
  generalize uu * B = S at *
  generalize uu * U1 = P at *
  clear e1 e2 e3 e4 e5 t1 t2 k hu h0 huu
  grind
theorem V.ofInt {n : Int} (h : n.natAbs < 9007199254740992) : V (ofInt n) (n : Rat) := by
  refine ⟨ofInt_lt n, ofInt_fin h, ?_⟩
  unfold qv
  rw [ofInt_sval h]
  have e : ((n * (U : Int) : Int) : Rat) = (n : Rat) * (U : Rat) := by push_cast; rfl
  rw [e]
  have := UQ_ne
  grind
theorem V.zero_add {g : Nat} {b : Rat} (hg : V g b) (h : ab b ≤ 1000000) : V (fadd 0 g) b := by
  have hr := fin_rung hg.fin
  have z0 : sval 0 = 0 := by decide +kernel
  have hB := BG_big
  have hz : V 0 0 := by
    have := V.pos (r := 0) (by decide)
    rw [mval_zero] at this
    have e : ((0 : Nat) : Rat) / (U : Rat) = 0 := by
      have a := div_self_mul ((0 : Nat) : Rat) UQ_ne
      have := UQ_ne
      have e0 : ((0 : Nat) : Rat) = 0 := rfl
      rw [e0] at a ⊢
      grind
    rwa [e] at this
  have hna : (sval 0 + sval g).natAbs = mval (rung g) := by
    rw [z0, Int.zero_add]
    rcases sval_cases g with ⟨_, b⟩ | ⟨_, b⟩ <;> rw [b] <;> simp
  obtain ⟨f1, f2⟩ := fadd_exact hz.fin hg.fin (by rw [hna, rnd_mval hr]; exact ⟨hr, rfl⟩)
  obtain ⟨c, hc, _⟩ := hz.add hg (by rw [show (0 : Rat) + b = b by grind]; grind)
  have e : c = b := by
    rw [← hc.val, ← hg.val]
    unfold qv
    rw [f2, z0, Int.zero_add]
  rwa [e] at hc
theorem gap_any {f : Nat} {a : Rat} (hf : V f a) : uu * ab a ≤ gapq (rung f) ∧ (1 / 4 ≤ ab a → 1 / 2 * uu ≤ gapq (rung f)) ∧ (1 / 2 ≤ ab a → uu ≤ gapq (rung f)) := by
  have hr := fin_rung hf.fin
  exact unit_least hf.absv hr
/-- the part that is summed: parts of a float above nought, and the odd sum of their quotient. -/
theorem log_odd {f : Nat} {a : Rat} (hf : V f a) (ha : 0 < a) :
    ∃ u o, V (oddF (fdiv (fsub (logM f) 4607182418800017408) (fadd (logM f) 4607182418800017408))) o ∧ ab u ≤ 1716 / 10000 ∧ a = pw (logE f) * ((1 + u) / (1 - u)) ∧ ab (o - 2 * AT u 13) ≤ 313 / 100 * (uu * (2 * ab u)) ∧ -1101 ≤ logE f ∧ logE f ≤ 1024 ∧ (pw (-60) ≤ ab u ∨ (u = 0 ∧ o = 0 ∧ oddF (fdiv (fsub (logM f) 4607182418800017408) (fadd (logM f) 4607182418800017408)) = 0)) := by
  have huu : 0 < uu ∧ uu ≤ 1 / 100000000 := by decide +kernel
  have hB := BG_big
  obtain ⟨m, hm, m1, m2, m3, m4, m5⟩ := log_partsU hf ha
  obtain ⟨hx, hx2⟩ := sub_one_exact hm (by grind) (by grind)
  by_cases h1 : m = 1
  · have hM : logM f = 4607182418800017408 := by
      have hl := posW hm (show 0 < m by grind)
      have e1 := (posV hm hl).2.1
      have e2 := (posV V.unit1 (by decide)).2.1
      rw [h1, e2] at e1
      have e3 : (mval (logM f) : Rat) = (mval 4607182418800017408 : Rat) := by
        have a1 := div_self_mul (mval (logM f) : Rat) UQ_ne
        have a2 := div_self_mul (mval 4607182418800017408 : Rat) UQ_ne
        rw [← e1] at a1
        rw [← a1, a2]
      have e4 : mval (logM f) = mval 4607182418800017408 := by exact_mod_cast e3
      exact Nat.le_antisymm (mval_le_iff.1 (Nat.le_of_eq e4)) (mval_le_iff.1 (Nat.le_of_eq e4.symm))
    have hO : oddF (fdiv (fsub (logM f) 4607182418800017408) (fadd (logM f) 4607182418800017408)) = 0 := by
      rw [hM]; decide +kernel
    have z : AT 0 13 = 0 := by decide +kernel
    have n0 : ab (0 : Rat) = 0 := by decide +kernel
    refine ⟨0, 0, ?_, ?_, ?_, ?_, m4, m5, .inr ⟨rfl, rfl, hO⟩⟩
    · rw [hO]
      have hv := V.pos (r := 0) (by decide)
      rw [mval_zero] at hv
      have e : ((0 : Nat) : Rat) / (U : Rat) = 0 := by
        have a := div_self_mul ((0 : Nat) : Rat) UQ_ne
        have := UQ_ne
        have e0 : ((0 : Nat) : Rat) = 0 := rfl
        rw [e0] at a ⊢
        grind
      rwa [e] at hv
    · rw [n0]; decide +kernel
    · rw [h1] at m3
      have : (1 + 0 : Rat) / (1 - 0) = 1 := by decide +kernel
      rw [this, m3]
      grind
    · rw [z, n0, show (0 : Rat) - 2 * 0 = 0 by decide +kernel, n0]
      have : (313 / 100 * (uu * (2 * 0)) : Rat) = 0 := by grind
      rw [this]
      exact Rat.le_refl
  · have hx3 := hx2.resolve_left h1
    obtain ⟨u, hu⟩ : ∃ u, u = (m - 1) / (m + 1) := ⟨_, rfl⟩
    have hum : u * (m + 1) = m - 1 := by rw [hu]; exact div_self_mul _ (by grind)
    have um : ab u * (m + 1) = ab (m - 1) := by rw [← hum, ab_mul, ab_pos (show 0 ≤ m + 1 by grind)]
    have un := ab_nn u
    have u1 : ab u ≤ 1716 / 10000 := by
      have : -(1716 / 10000) ≤ u ∧ u ≤ 1716 / 10000 := by
        constructor
        · rw [hu, le_div (by grind)]; grind
        · rw [hu, div_le (by grind)]; grind
      exact ab_le.2 this
    have u2 : pw (-55) ≤ ab u := by
      have k := Rat.mul_le_mul_of_nonneg_left (show m + 1 ≤ 3 by grind) un
      have p : 3 * pw (-55) ≤ pw (-53) := by decide +kernel
      grind
    obtain ⟨d, hd, r1⟩ := hm.add V.unit1 (by rw [ab_pos (by grind)]; grind)
    have r1' := r1
    rw [ab_pos (show 0 ≤ m + 1 by grind)] at r1'
    have k1 := Rat.mul_le_mul_of_nonneg_right huu.2 (show 0 ≤ m + 1 by grind)
    have d1 := (ab_le.1 r1').1
    have d0 : 1 ≤ d := by grind
    have md : 2 * ab ((m - 1) / d) ≤ BG := by
      rw [ab_div, ab_pos (show 0 ≤ d by grind)]
      have n1 : ab (m - 1) ≤ 1 := by rw [ab_le]; constructor <;> grind
      have : ab (m - 1) / d ≤ 1 := by rw [div_le (by grind)]; grind
      grind
    obtain ⟨q, hq, r2⟩ := hx.div hd (by grind) md
    have het : et ≤ 1 / 100000 * (uu * ab ((m - 1) / (m + 1))) := by
      rw [← hu]
      have e5 := et_500
      have p : pw (-500) ≤ pw (-55) := pw_mono (by decide)
      have := Rat.mul_le_mul_of_nonneg_left (Rat.le_trans p u2) (Rat.le_of_lt huu.1)
      have := Rat.mul_nonneg (Rat.le_of_lt huu.1) un
      grind
    have r3 := quot_near (show 1 / 2 ≤ m + 1 by grind) r1 r2 het
    rw [← hu] at r3
    have p60 : pw (-60) ≤ pw (-55) := pw_mono (by decide)
    have p249 : pw (-249) ≤ pw (-55) := pw_mono (by decide)
    obtain ⟨o, ho, r4⟩ := odd_near hq (by grind) (Rat.le_trans p249 u2) r3
    refine ⟨u, o, ho, u1, ?_, r4, m4, m5, .inl (Rat.le_trans p60 u2)⟩
    have : (1 + u) / (1 - u) = m := by
      have e1 : (1 - u) * m = 1 + u := by grind
      have u1' := ab_le.1 u1
      have e2 : 1 - u ≠ 0 := by grind
      rw [← e1]
      grind
    rw [this, m3]
    grind
theorem logF_pos {f : Nat} {a : Rat} (hf : V f a) (ha : 0 < a) : logF f = fadd (fmul (ofInt (logE f)) 4604418534311723008) (fadd (fmul (ofInt (logE f)) 4461442080421002358) (oddF (fdiv (fsub (logM f) 4607182418800017408) (fadd (logM f) 4607182418800017408)))) := by
  have hl := posW hf ha
  have hr0 := hf.nz (show a ≠ 0 by grind)
  unfold logF
  rw [fin_notN hf.fin, (inf_false (s := 0) hf).1, flt_words hl (by decide), feq_zero (fin_notN hf.fin)]
  simp [hr0]
/-- what the exponential of the true sum is. -/
theorem log_true {n : Int} {u a : Rat} (h1 : -1101 ≤ n) (h2 : n ≤ 1024) (hn : n ≠ 0) (hu : ab u ≤ 1716 / 10000) (ha : a = pw n * ((1 + u) / (1 - u))) : Rl (XX ((n : Rat) * L2 + 2 * AT u 13)) a (1 / 100 * uu) ∧ ab ((n : Rat) * L2) ≤ 764 ∧ 6931 / 10000 ≤ ab ((n : Rat) * L2) ∧ ab (2 * AT u 13) ≤ 3467 / 10000 := by
  have c1 := cast_le'.2 h1
  have c2 := cast_le'.2 h2
  have e1 : ((-1101 : Int) : Rat) = -1101 := by decide +kernel
  have e2 : ((1024 : Int) : Rat) = 1024 := by decide +kernel
  rw [e1] at c1
  rw [e2] at c2
  have l1 : 6931 / 10000 ≤ L2 ∧ L2 ≤ 69315 / 100000 := by decide +kernel
  have nL : ab ((n : Rat) * L2) ≤ 764 := by
    rw [ab_mul, ab_pos (show 0 ≤ L2 from Rat.le_trans (by decide +kernel) l1.1)]
    have h : ab (n : Rat) ≤ 1101 := by
      rw [ab_le]
      generalize (n : Rat) = N at *
      clear ha hu e1 e2
      constructor <;> grind
    have := mul_mono (ab_nn (n : Rat)) h (show 0 ≤ L2 from Rat.le_trans (by decide +kernel) l1.1) l1.2
    exact Rat.le_trans this (by decide +kernel)
  have nL2 : 6931 / 10000 ≤ ab ((n : Rat) * L2) := by
    rw [ab_mul, ab_pos (show 0 ≤ L2 from Rat.le_trans (by decide +kernel) l1.1)]
    have n1 : 1 ≤ ab (n : Rat) := by
      rcases Int.lt_trichotomy n 0 with h | h | h
      · have h2 := cast_le'.2 (show n ≤ -1 by omega)
        have e : ((-1 : Int) : Rat) = -1 := by decide +kernel
        rw [e] at h2
        generalize (n : Rat) = N at *
        have h3 := (ab_of N).1
        clear c1 c2 e1 e2 e nL ha hu hn h1
        grind
      · exact absurd h hn
      · have h2 := cast_le'.2 (show 1 ≤ n by omega)
        have e : ((1 : Int) : Rat) = 1 := by decide +kernel
        rw [e] at h2
        have h3 := (ab_of (n : Rat)).2
        exact Rat.le_trans h2 h3
    have := mul_mono (by decide +kernel : (0 : Rat) ≤ 1) n1 (by decide +kernel : (0 : Rat) ≤ 6931 / 10000) l1.1
    rw [Rat.one_mul] at this
    exact this
  have un := ab_nn u
  have A : ab (2 * AT u 13) ≤ 3467 / 10000 := by
    have uu2 : u * u = ab u * ab u := by
      rcases (show 0 ≤ u ∨ u < 0 by grind) with q | q
      · rw [ab_pos q]
      · have : ab u = -u := by unfold ab; grind
        rw [this]; grind
    have s1 : u * u ≤ 2945 / 100000 := by rw [uu2]; have := mul_mono un hu un hu; grind
    have s0 : 0 ≤ u * u := by rw [uu2]; exact Rat.mul_nonneg un un
    obtain ⟨g0, g1⟩ := hq_size s0 (show u * u ≤ 296 / 10000 by grind) 11 (by omega)
    have hA := AT_hq u
    obtain ⟨g, hg⟩ : ∃ g, g = hq (u * u) 11 := ⟨_, rfl⟩
    rw [← hg] at g0 g1 hA
    have sg := mul_mono s0 s1 g0 g1
    have sg0 := Rat.mul_nonneg s0 g0
    rw [hA, show 2 * (u * (1 + u * u * g)) = u * (2 * (1 + u * u * g)) by grind, ab_mul, ab_pos (show 0 ≤ 2 * (1 + u * u * g) by grind)]
    have := mul_mono un hu (show 0 ≤ 2 * (1 + u * u * g) by grind) (show 2 * (1 + u * u * g) ≤ 202033 / 100000 by grind)
    exact Rat.le_trans this (by decide +kernel)
  refine ⟨?_, nL, nL2, A⟩
  have h3 := XX_add (a := (n : Rat) * L2) (b := 2 * AT u 13) (Rat.le_trans nL (by decide +kernel)) (Rat.le_trans A (by decide +kernel))
  have h4 := XX_pow2 (n := n) (by omega) (by omega)
  have h5 := log_core (u := u) (by grind)
  have p1 : pn (ab u) 26 ≤ pn (1716 / 10000) 26 := pn_mono un hu 26
  have pu := pn_nn un 26
  have h6 : tw 266 + 12 * (ab u * pn (ab u) 26) ≤ 1 / 1000 * uu := by
    have m := mul_mono un hu pu p1
    have : tw 266 + 12 * (1716 / 10000 * pn (1716 / 10000) 26) ≤ 1 / 1000 * uu := by decide +kernel
    grind
  have h7 := rl_mul h4 (rl_mono h5 h6) (Rat.le_of_lt (tw_pos _)) (by decide +kernel)
  rw [← ha] at h7
  -- XX (sum) beside the product
  obtain ⟨q1, q2⟩ := h3
  obtain ⟨q3, q4⟩ := h7
  have t1 : tw 553 ≤ 1 / 1000 * uu ∧ tw 71 + 1 / 1000 * uu + tw 71 * (1 / 1000 * uu) ≤ 2 / 1000 * uu ∧ uu ≤ 1 / 1000 ∧ 0 < uu := by decide +kernel
  refine ⟨?_, q4⟩
  have k1 := Rat.mul_le_mul_of_nonneg_right t1.1 (Rat.le_of_lt q2)
  have k2 := Rat.mul_le_mul_of_nonneg_right t1.2.1 (Rat.le_of_lt q4)
  generalize XX ((n : Rat) * L2) * XX (2 * AT u 13) = P at *
  generalize XX ((n : Rat) * L2 + 2 * AT u 13) = S at *
  have z1 := ab_le.1 (Rat.le_trans q1 k1)
  have z2 := ab_le.1 (Rat.le_trans q3 k2)
  have k3 := Rat.mul_le_mul_of_nonneg_right t1.2.2.1 (Rat.le_of_lt q2)
  have k4 := Rat.mul_le_mul_of_nonneg_right t1.2.2.1 (Rat.le_of_lt q4)
  have S1 : S ≤ 2 * a := by grind
  have k5 := Rat.mul_le_mul_of_nonneg_left S1 (Rat.le_of_lt t1.2.2.2)
  have k6 := Rat.mul_pos t1.2.2.2 q4
  rw [ab_le]
  constructor <;> grind
theorem log_end {H B A c o S l w G : Rat} (hB : ab B ≤ 3 / 10000000) (hc : ab (c - B) ≤ uu * ab B + et) (hw : w ≤ 1716 / 10000) (ho : ab (o - A) ≤ 313 / 100 * (uu * (2 * w))) (hA : ab A ≤ 3467 / 10000) (hS : ab (S - (c + o)) ≤ uu * ab (c + o)) (hl : ab (l - (H + S)) ≤ uu * ab (H + S)) (h1 : 6931 / 10000 ≤ ab (H + B)) (h2 : ab (H + B) ≤ 764)
    (g1 : uu * ab l ≤ G) (g2 : 1 / 4 ≤ ab l → 1 / 2 * uu ≤ G) (g3 : 1 / 2 ≤ ab l → uu ≤ G) : ab (l - (H + B + A)) + 2 * (1 / 100 * uu) ≤ 399 / 100 * G ∧ ab l ≤ 900 ∧ 1 / 4 ≤ ab l := by
  have huu : 0 < uu ∧ uu ≤ 1 / 100000000 := by decide +kernel
  have het := et_uu
  have k1 := Rat.mul_le_mul_of_nonneg_left hB (Rat.le_of_lt huu.1)
  have k2 := Rat.mul_le_mul_of_nonneg_left hw (Rat.le_of_lt huu.1)
  have c1 : ab (c - B) ≤ 1 / 100000 * uu := by grind
  have o1 : ab (o - A) ≤ 10743 / 10000 * uu := by
    have e : 313 / 100 * (uu * (2 * w)) = 626 / 100 * (uu * w) := by grind
    rw [e] at ho
    grind
  have s1 : ab (c + o) ≤ 3468 / 10000 := by
    have a1 := ab_add (c - B) (o - A)
    have a2 := ab_add B A
    have a3 := ab_add (c - B + (o - A)) (B + A)
    rw [show c - B + (o - A) + (B + A) = c + o by grind] at a3
    grind
  have k3 := Rat.mul_le_mul_of_nonneg_left s1 (Rat.le_of_lt huu.1)
  have s2 : ab (S - (B + A)) ≤ 142112 / 100000 * uu := by
    have a1 := ab_tri S (c + o) (B + A)
    have a2 := ab_add (c - B) (o - A)
    rw [show c - B + (o - A) = c + o - (B + A) by grind] at a2
    grind
  have m1 : ab (H + S) ≤ ab (H + B + A) + 142112 / 100000 * uu := by
    have := ab_add (H + B + A) (S - (B + A))
    rw [show H + B + A + (S - (B + A)) = H + S by grind] at this
    grind
  have m2 : ab (H + B + A) ≤ ab (H + B) + ab A := ab_add _ _
  have m3 : ab (H + B) ≤ ab (H + B + A) + ab A := by
    have := ab_sub (H + B + A) A
    rw [show H + B + A - A = H + B by grind] at this
    exact this
  have l1 : ab (l - (H + B + A)) ≤ uu * ab (H + S) + 142112 / 100000 * uu := by
    have := ab_tri l (H + S) (H + B + A)
    rw [show H + S - (H + B + A) = S - (B + A) by grind] at this
    grind
  have l2 : ab l ≤ ab (H + B + A) + ab (l - (H + B + A)) := by
    have := ab_add (H + B + A) (l - (H + B + A))
    rw [show H + B + A + (l - (H + B + A)) = l by grind] at this
    exact this
  have l3 : ab (H + B + A) ≤ ab l + ab (l - (H + B + A)) := by
    have := ab_sub l (l - (H + B + A))
    rw [show l - (l - (H + B + A)) = H + B + A by grind] at this
    exact this
  clear hB hc ho hS hl c1 o1 s2 k1 k2 k3 s1
  generalize ab (l - (H + B + A)) = E at *
  generalize ab (H + B + A) = M at *
  generalize ab (H + B) = M2 at *
  generalize ab (H + S) = M3 at *
  generalize ab l = Y at *
  generalize ab A = Z at *
  clear het hw
  have M3b : M3 ≤ 765 := by grind
  have k4 := Rat.mul_le_mul_of_nonneg_left M3b (Rat.le_of_lt huu.1)
  have E1 : E ≤ 1 / 20000 := by grind
  have Y1 : 1 / 4 ≤ Y := by grind
  refine ⟨?_, by grind, Y1⟩
  have k5 : uu * M3 ≤ uu * (Y + 1 / 10000) := by
    refine Rat.mul_le_mul_of_nonneg_left ?_ (Rat.le_of_lt huu.1)
    have : 142112 / 100000 * uu ≤ 1 / 10000000 := by grind
    grind
  rcases (show 1 / 2 ≤ Y ∨ Y < 1 / 2 by grind) with q | q
  · have := g3 q
    grind
  · have := g2 Y1
    have k6 := Rat.mul_le_mul_of_nonneg_left (Rat.le_of_lt q) (Rat.le_of_lt huu.1)
    grind
/-- THE LOGARITHM beside the true one. -/
theorem log_val {f : Nat} {a : Rat} (hf : V f a) (ha : 0 < a) : ∃ l μ η, V (logF f) l ∧ ab l ≤ 900 ∧ Rl (XX μ) a η ∧ 0 ≤ η ∧ η ≤ 1 / 1000 ∧ ab μ ≤ 900 ∧ ab (l - μ) + 2 * η ≤ 399 / 100 * gapq (rung (logF f)) ∧ ((l = 0 ∧ η = 0 ∧ μ = 0) ∨ pw (-61) ≤ ab l) := by
  have huu : 0 < uu ∧ uu ≤ 1 / 100000000 := by decide +kernel
  have hB := BG_big
  obtain ⟨u, o, ho, u1, u2, u3, u4, u5, u6⟩ := log_odd hf ha
  have un := ab_nn u
  rw [logF_pos hf ha]
  obtain ⟨O, hO⟩ : ∃ O, O = oddF (fdiv (fsub (logM f) 4607182418800017408) (fadd (logM f) 4607182418800017408)) := ⟨_, rfl⟩
  rw [← hO] at ho u6 ⊢
  obtain ⟨n, hn⟩ : ∃ n, n = logE f := ⟨_, rfl⟩
  rw [← hn] at u2 u4 u5 ⊢
  have kk := Rat.mul_le_mul_of_nonneg_right huu.2 un
  have p := Rat.mul_nonneg (Rat.le_of_lt huu.1) un
  by_cases h0 : n = 0
  · subst h0
    have c1 : fmul (ofInt 0) 4604418534311723008 = 0 := by decide +kernel
    have c2 : fmul (ofInt 0) 4461442080421002358 = 0 := by decide +kernel
    rw [c1, c2]
    have hs : ab u ≤ 172 / 1000 := by grind
    have uu2 : u * u = ab u * ab u := by
      rcases (show 0 ≤ u ∨ u < 0 by grind) with q | q
      · rw [ab_pos q]
      · have : ab u = -u := by unfold ab; grind
        rw [this]; grind
    have s1 : u * u ≤ 296 / 10000 := by rw [uu2]; have := mul_mono un hs un hs; grind
    have s0 : 0 ≤ u * u := by rw [uu2]; exact Rat.mul_nonneg un un
    obtain ⟨g0, g1⟩ := hq_size s0 s1 11 (by omega)
    have hA := AT_hq u
    obtain ⟨g, hg⟩ : ∃ g, g = hq (u * u) 11 := ⟨_, rfl⟩
    rw [← hg] at g0 g1 hA
    have sg := mul_mono s0 s1 g0 g1
    have sg0 := Rat.mul_nonneg s0 g0
    have A1 : 2 * ab u ≤ ab (2 * AT u 13) ∧ ab (2 * AT u 13) ≤ 21 / 10 * ab u := by
      rw [hA, show 2 * (u * (1 + u * u * g)) = u * (2 * (1 + u * u * g)) by grind, ab_mul, ab_pos (show 0 ≤ 2 * (1 + u * u * g) by grind)]
      have a1 := Rat.mul_le_mul_of_nonneg_left (show 2 ≤ 2 * (1 + u * u * g) by grind) un
      have a2 := Rat.mul_le_mul_of_nonneg_left (show 2 * (1 + u * u * g) ≤ 21 / 10 by grind) un
      constructor <;> grind
    clear hA
    have o1 := ab_tri o (2 * AT u 13) 0
    rw [show o - 0 = o by grind, show 2 * AT u 13 - 0 = 2 * AT u 13 by grind] at o1
    have o2 := ab_tri (2 * AT u 13) o 0
    rw [show o - 0 = o by grind, show 2 * AT u 13 - 0 = 2 * AT u 13 by grind, ab_comm (2 * AT u 13) o] at o2
    have ob : ab o ≤ 1 := by grind
    have h1 := ho.zero_add (by grind)
    have h2 := h1.zero_add (by grind)
    rw [pw_zero, Rat.one_mul] at u2
    rcases u6 with h6 | ⟨rfl, rfl, h6⟩
    · refine ⟨o, 2 * AT u 13, tw 266 + 12 * (ab u * pn (ab u) 26), h2, by grind, ?_, ?_, ?_, by grind, ?_, .inr ?_⟩
      · rw [u2]; exact log_core hs
      · have := tw_pos 266
        have := Rat.mul_nonneg un (pn_nn un 26)
        grind
      · have p1 : pn (ab u) 26 ≤ pn (172 / 1000) 26 := pn_mono un hs 26
        have m := mul_mono un hs (pn_nn un 26) p1
        have : tw 266 + 12 * (172 / 1000 * pn (172 / 1000) 26) ≤ 1 / 1000 := by decide +kernel
        grind
      · have p1 : pn (ab u) 26 ≤ pn (1716 / 10000) 26 := pn_mono un u1 26
        have m := Rat.mul_le_mul_of_nonneg_left p1 un
        have e7 : 12 * pn (1716 / 10000) 26 ≤ 2 / 1000 * uu := by decide +kernel
        have m2 := Rat.mul_le_mul_of_nonneg_left e7 un
        have e8 : tw 266 ≤ 1 / 1000 * (uu * pw (-60)) := by decide +kernel
        have m3 := Rat.mul_le_mul_of_nonneg_left h6 (Rat.le_of_lt huu.1)
        have hg := (gap_any h2).1
        have o3 : 2 * ab u - 313 / 100 * (uu * (2 * ab u)) ≤ ab o := by grind
        have m4 := Rat.mul_le_mul_of_nonneg_left o3 (Rat.le_of_lt huu.1)
        have m5 := Rat.mul_le_mul_of_nonneg_left kk (Rat.le_of_lt huu.1)
        generalize gapq (rung (fadd 0 (fadd 0 O))) = G at *
        clear o1 o2 A1 sg sg0 g0 g1 s0 s1 uu2 h1 h2 ho
        have e9 : uu * (2 * ab u - 313 / 100 * (uu * (2 * ab u))) = 2 * (uu * ab u) - 626 / 100 * (uu * (uu * ab u)) := by grind
        have e10 : uu * (1 / 100000000 * ab u) = 1 / 100000000 * (uu * ab u) := by grind
        have e11 : ab u * (12 * pn (1716 / 10000) 26) = 12 * (ab u * pn (1716 / 10000) 26) := by grind
        have e12 : ab u * (2 / 1000 * uu) = 2 / 1000 * (uu * ab u) := by grind
        rw [e9] at m4
        rw [e10] at m5
        rw [e11, e12] at m2
        generalize uu * (uu * ab u) = Q at *
        generalize uu * ab u = P at *
        generalize ab u * pn (ab u) 26 = R at *
        generalize ab u * pn (1716 / 10000) 26 = R2 at *
        grind
      · have : pw (-60) = 2 * pw (-61) := by decide +kernel
        have p6 := pw_pos (-61)
        grind
    · have z : AT 0 13 = 0 := by decide +kernel
      have n0 : ab (0 : Rat) = 0 := by decide +kernel
      have hz : (1 + 0 : Rat) / (1 - 0) = 1 := by decide +kernel
      refine ⟨0, 0, 0, h2, by rw [n0]; decide +kernel, ?_, Rat.le_refl, by decide +kernel, by rw [n0]; decide +kernel, ?_, .inl ⟨rfl, rfl, rfl⟩⟩
      · rw [XX_zero, u2, hz]
        refine ⟨?_, by decide +kernel⟩
        decide +kernel
      · have := gap_pos (rung (fadd 0 (fadd 0 O)))
        have e : ab ((0 : Rat) - 0) + 2 * 0 = 0 := by decide +kernel
        rw [e]
        grind
  · obtain ⟨t1, t2, t3, t4⟩ := log_true u4 u5 h0 u1 u2
    have hN := V.ofInt (n := n) (by omega)
    obtain ⟨hH, K, hK⟩ := V.cH
    have c1 := cast_le'.2 u4
    have c2 := cast_le'.2 u5
    have e1 : ((-1101 : Int) : Rat) = -1101 := by decide +kernel
    have e2 : ((1024 : Int) : Rat) = 1024 := by decide +kernel
    rw [e1] at c1
    rw [e2] at c2
    have eL : (n : Rat) * L2 = (n : Rat) * (5954088942 / 8589934592) + (n : Rat) * (7382048951581814 / 38685626227668133590597632) := by unfold L2; rw [Rat.mul_add]
    have nb : ab ((n : Rat) * (7382048951581814 / 38685626227668133590597632)) ≤ 3 / 10000000 ∧ ab ((n : Rat) * (5954088942 / 8589934592)) ≤ 2000 := by
      have p1 : ab (n : Rat) ≤ 1101 := by
        rw [ab_le]
        generalize (n : Rat) = N at *
        clear t1 t2 t3 eL u2 hN
        constructor <;> grind
      constructor
      · rw [ab_mul, ab_pos (show (0 : Rat) ≤ 7382048951581814 / 38685626227668133590597632 by decide +kernel)]
        exact Rat.le_trans (Rat.mul_le_mul_of_nonneg_right p1 (by decide +kernel)) (by decide +kernel)
      · rw [ab_mul, ab_pos (show (0 : Rat) ≤ 5954088942 / 8589934592 by decide +kernel)]
        exact Rat.le_trans (Rat.mul_le_mul_of_nonneg_right p1 (by decide +kernel)) (by decide +kernel)
    have B1 : (2000 : Rat) ≤ BG := Rat.le_trans (by decide +kernel) hB
    have hHn := V.mul_whole hN hH hK (by omega) (Rat.le_trans nb.2 B1)
    obtain ⟨c, hc, r1⟩ := hN.mul V.cLo (Rat.le_trans nb.1 (Rat.le_trans (by decide +kernel) hB))
    obtain ⟨H, hHe⟩ : ∃ H, H = (n : Rat) * (5954088942 / 8589934592) := ⟨_, rfl⟩
    obtain ⟨B, hBe⟩ : ∃ B, B = (n : Rat) * (7382048951581814 / 38685626227668133590597632) := ⟨_, rfl⟩
    rw [← hHe] at hHn nb eL
    rw [← hBe] at r1 nb eL
    rw [eL] at t1 t2 t3
    clear eL hHe hBe c1 c2 hN e1 e2
    have ob : ab o ≤ 1 := by
      have o1 := ab_tri o (2 * AT u 13) 0
      rw [show o - 0 = o by grind, show 2 * AT u 13 - 0 = 2 * AT u 13 by grind] at o1
      clear u2 t1 u6
      grind
    have het := et_uu
    have cb : ab c ≤ 1 := by
      have o1 := ab_tri c B 0
      rw [show c - 0 = c by grind, show B - 0 = B by grind] at o1
      have k1 := Rat.mul_le_mul_of_nonneg_left nb.1 (Rat.le_of_lt huu.1)
      clear u2 t1 u6
      grind
    have co := ab_add c o
    obtain ⟨S, hS, r2⟩ := hc.add ho (Rat.le_trans co (Rat.le_trans (show ab c + ab o ≤ 2000 by clear u2 t1 u6; grind) B1))
    have Sb : ab S ≤ 3 := by
      have o1 := ab_tri S (c + o) 0
      rw [show S - 0 = S by grind, show c + o - 0 = c + o by grind] at o1
      have k1 := Rat.mul_le_mul_of_nonneg_left (show ab (c + o) ≤ 2 by clear u2 t1 u6; grind) (Rat.le_of_lt huu.1)
      clear u2 t1 u6
      grind
    have hs := ab_add H S
    obtain ⟨l, hl, r3⟩ := hHn.add hS (Rat.le_trans hs (Rat.le_trans (show ab H + ab S ≤ 3000 by clear u2 t1 u6; grind) (Rat.le_trans (by decide +kernel) hB)))
    obtain ⟨g1, g2, g3⟩ := gap_any hl
    obtain ⟨z1, z2, z3⟩ := log_end nb.1 r1 u1 u3 t4 r2 r3 t3 t2 g1 g2 g3
    refine ⟨l, H + B + 2 * AT u 13, 1 / 100 * uu, hl, z2, t1, by decide +kernel, by decide +kernel, ?_, z1, .inr (Rat.le_trans (by decide +kernel) z3)⟩
    have := ab_add (H + B) (2 * AT u 13)
    clear u2 t1 u6 z1
    grind
end Go.Proofs.Ytcfkhhnkboealaa
