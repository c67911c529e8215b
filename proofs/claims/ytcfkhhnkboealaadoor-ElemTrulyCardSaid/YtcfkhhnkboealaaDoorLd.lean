/- The program's logarithm by value. No text of the program. -/
import Derived.Test.YtcfkhhnkboealaaDoorLc
namespace Go.Proofs.YtcfkhhnkboealaaDoor
open Go.RowKit
set_option linter.unusedVariables false
set_option linter.unusedSimpArgs false
set_option maxRecDepth 100000
set_option maxHeartbeats 4000000
open Turns Sizes
theorem V.partv {f : Nat} {a : Rat} (hf : V f a) (ha : 0 < a) : ∃ p, V (partF f) p ∧ 1 / 2 ≤ p ∧ p < 1 ∧ a = p * pw (partE f) ∧ -1100 ≤ partE f ∧ partE f ≤ 1024 := by
  have hn0 : a ≠ 0 := by grind
  obtain ⟨b1, b2, b3, b4⟩ := hf.parts hn0
  rw [ab_pos (Rat.le_of_lt ha)] at b1 b2
  have hr0 := hf.nz hn0
  have hfr := fin_rung hf.fin
  have hsg : sgn f = false := (word_facts (posW hf ha)).2.1
  obtain ⟨r, n, hp, h1, h2⟩ := parts_exist (s := sgn f) (Nat.pos_of_ne_zero hr0) hfr
  obtain ⟨e1', e2⟩ := parts_end hf.lt hf.fin hr0 hp h1 h2
  have hV := V.word (s := sgn f) (r := r) (by omega)
  rw [← e1', hsg] at hV
  have hsz := hf.size
  rw [ab_pos (Rat.le_of_lt ha)] at hsz
  have e5 : a * pw (-partE f) = (mval r : Rat) / (U : Rat) := by
    rw [e2, hsz]
    rcases hp with ⟨k, rfl, hk, hk2⟩ | ⟨j, rfl, hj⟩
    · have e3 : mval (rung f) = mval r * 2 ^ k := by rw [← hk]; exact mval_up k (by omega)
      have e4 := pw_negnat k
      rw [e3, cast_mul]
      generalize ((2 ^ k : Nat) : Rat) = D at *
      generalize pw (-(k : Int)) = p at *
      have := UQ_ne
      grind
    · have e3 : mval r = mval (rung f) * 2 ^ j := by rw [hj]; exact mval_dblN j _
      rw [e3, cast_mul, show - -(j : Int) = (j : Int) by omega, pw_nat]
      have := UQ_ne
      grind
  have hV2 : V (partF f) (a * pw (-partE f)) := by rw [e5]; exact hV
  refine ⟨_, hV2, b1, b2, ?_, b3, b4⟩
  have : pw (-partE f) * pw (partE f) = 1 := by rw [← pw_add, show -partE f + partE f = 0 by omega, pw_zero]
  grind
theorem pw_U : ∀ k : Nat, k = 1021 → pw (-53) * (U : Rat) = ((2 ^ k : Nat) : Rat) := by
  intro k hk
  have h : U = 2 ^ 53 * 2 ^ k := by rw [← Nat.pow_add, U_def]; congr 1; rw [e1_eq]; omega
  rw [h, cast_mul]
  have : pw (-53) * ((2 ^ 53 : Nat) : Rat) = 1 := by decide +kernel
  grind
theorem sub_one_exact {M : Nat} {m : Rat} (hM : V M m) (h1 : 1 / 2 ≤ m) (h2 : m < 2) : V (fsub M 4607182418800017408) (m - 1) ∧ (m = 1 ∨ pw (-53) ≤ ab (m - 1)) := by
  have hl := posW hM (show 0 < m by grind)
  have hw := below_word hM h2 hl word_two
  have ev := (posV hM hl).2.1
  have hlo : 4602678819172646912 ≤ M := by
    rcases Nat.lt_or_ge M 4602678819172646912 with q | q
    · exfalso
      have hh := V.half.uniq (V.pos (by decide))
      have m1 := mval_lt q
      have m2 : (mval M : Rat) < (mval 4602678819172646912 : Rat) := by exact_mod_cast m1
      rw [hh, ev, div_le UQ_pos, div_self_mul _ UQ_ne] at h1
      grind
    · exact q
  obtain ⟨L, hL⟩ : ∃ L, L = M / 4503599627370496 - 1 := ⟨_, rfl⟩
  obtain ⟨q, hq⟩ : ∃ q, q = M - L * 4503599627370496 := ⟨_, rfl⟩
  have hr : M = L * 4503599627370496 + q := by omega
  have b1 : 4503599627370496 ≤ q := by omega
  have b2 : q < 9007199254740992 := by omega
  have hLr : L = 1021 ∨ L = 1022 := by omega
  have e0 : mval M = q * 2 ^ L := by rw [hr]; exact mval_plc (by omega) (.inr b1)
  obtain ⟨P, hP⟩ : ∃ P, P = 2 ^ (e1 - L) := ⟨_, rfl⟩
  have hP2 : P = 4503599627370496 ∨ P = 9007199254740992 := by
    rw [hP, e1_eq]
    rcases hLr with h | h <;> rw [h] <;> decide
  have hU : U = P * 2 ^ L := by rw [hP, ← Nat.pow_add, U_def]; congr 1; rw [e1_eq]; omega
  obtain ⟨a1, a2, a3, _, a5, _⟩ := word_facts hl
  have s1 : sval 4607182418800017408 = (U : Int) := by
    rw [(word_facts (r := 4607182418800017408) (by decide)).2.2.2.2.1, mval_oneT]
  have ez : sval M - sval 4607182418800017408 = ((q : Int) - (P : Int)) * ((2 ^ L : Nat) : Int) := by
    rw [a5, s1, e0, hU]
    push_cast
    generalize (2 : Int) ^ L = X
    rw [Int.sub_mul]
  have ena : (sval M - sval 4607182418800017408).natAbs = ((q : Int) - (P : Int)).natAbs * 2 ^ L := by
    rw [ez, Int.natAbs_mul, Int.natAbs_natCast]
  have hx := rnd_exact (m := ((q : Int) - (P : Int)).natAbs) (k := L) (by omega) (by omega)
  rw [← ena] at hx
  obtain ⟨f1, f2⟩ := fsub_exact hM.fin V.unit1.fin (by decide) hx
  have hB := BG_big
  obtain ⟨c, hc, _⟩ := hM.sub V.unit1 (by rw [ab_le]; clear hx ena ez; generalize BG = B at *; constructor <;> grind)
  have ec : c = m - 1 := by
    rw [← hc.val]
    unfold qv
    rw [f2, a5, s1, ev]
    have e3 : (((mval M : Int) - (U : Int) : Int) : Rat) = (mval M : Rat) - (U : Rat) := by push_cast; rfl
    rw [e3]
    have := UQ_ne
    grind
  rw [ec] at hc
  refine ⟨hc, ?_⟩
  by_cases h0 : q = P
  · left
    rw [ev, e0, hU, h0]
    have hne : ((P * 2 ^ L : Nat) : Rat) ≠ 0 := by rw [← hU]; exact UQ_ne
    grind
  · right
    have hsz := hc.size
    have hfr : fin (fsub M 4607182418800017408) = true := hc.fin
    rw [hsz]
    have er : mval (rung (fsub M 4607182418800017408)) = ((q : Int) - (P : Int)).natAbs * 2 ^ L := by
      rw [← ena, ← f2]
      rcases sval_cases (fsub M 4607182418800017408) with ⟨_, b⟩ | ⟨_, b⟩ <;> rw [b] <;> simp
    obtain ⟨k, hk⟩ : ∃ k, k = 1021 := ⟨_, rfl⟩
    rw [er, le_div UQ_pos, pw_U k hk]
    have : 2 ^ k ≤ ((q : Int) - (P : Int)).natAbs * 2 ^ L := by
      have h5 : 1 * 2 ^ k ≤ ((q : Int) - (P : Int)).natAbs * 2 ^ L := Nat.mul_le_mul (by omega) (Nat.pow_le_pow_right (by decide) (by omega))
      rwa [Nat.one_mul] at h5
    exact cast_le.2 this
/-- the parts as the logarithm takes them. -/
theorem log_parts {f : Nat} {a : Rat} (hf : V f a) (ha : 0 < a) : ∃ m, V (logM f) m ∧ 7071 / 10000 ≤ m ∧ m ≤ 141422 / 100000 ∧ a = m * pw (logE f) ∧ -1101 ≤ logE f ∧ logE f ≤ 1024 := by
  obtain ⟨p, hp, p1, p2, p3, p4, p5⟩ := hf.partv ha
  have hpl := posW hp (show 0 < p by grind)
  have ev := (posV hp hpl).2.1
  have hfl : flt (partF f) 4604544271217802189 = decide (partF f < 4604544271217802189) := flt_words hpl (by decide)
  unfold logM logE
  rw [hfl]
  by_cases h : partF f < 4604544271217802189
  · rw [decide_eq_true h, if_pos rfl, if_pos rfl]
    have h2 := hp.twice (by rw [ab_pos (by grind)]; grind)
    have h3 : p ≤ 70711 / 100000 := by
      rw [ev, div_le UQ_pos]
      have h4 : mval 4604544271217802189 * 100000 ≤ 70711 * U := by decide +kernel
      have h5 := cast_le.2 h4
      have h6 := cast_le.2 (mval_le_iff.2 (Nat.le_of_lt h))
      rw [cast_mul, cast_mul] at h5
      have e1 : ((100000 : Nat) : Rat) = 100000 := by decide +kernel
      have e2 : ((70711 : Nat) : Rat) = 70711 := by decide +kernel
      grind
    refine ⟨2 * p, h2, by grind, by grind, ?_, by omega, by omega⟩
    rw [p3]
    have : pw (partE f) = 2 * pw (partE f - 1) := by
      rw [show partE f = 1 + (partE f - 1) by omega, pw_add, show 1 + (partE f - 1) - 1 = partE f - 1 by omega]
      have : pw 1 = 2 := by decide +kernel
      rw [this]
    rw [this]
    grind
  · rw [decide_eq_false h, if_neg (by decide), if_neg (by decide)]
    have h3 : 7071 / 10000 ≤ p := by
      rw [ev, le_div UQ_pos]
      have h4 : 7071 * U ≤ mval 4604544271217802189 * 10000 := by decide +kernel
      have h5 := cast_le.2 h4
      have h6 := cast_le.2 (mval_le_iff.2 (show 4604544271217802189 ≤ partF f by omega))
      rw [cast_mul, cast_mul] at h5
      have e1 : ((10000 : Nat) : Rat) = 10000 := by decide +kernel
      have e2 : ((7071 : Nat) : Rat) = 7071 := by decide +kernel
      grind
    exact ⟨p, hp, h3, by grind, p3, by omega, by omega⟩
/-- quotients beside the true ones. -/
theorem quot_near {x D d q : Rat} (hD : 1 / 2 ≤ D) (hd : ab (d - D) ≤ uu * ab D) (hq : ab (q - x / d) ≤ uu * ab (x / d) + et) (hx : et ≤ 1 / 100000 * (uu * ab (x / D))) : ab (q - x / D) ≤ 20001 / 10000 * (uu * ab (x / D)) := by
  have hu : 0 < uu ∧ uu ≤ 1 / 1000000 := by decide +kernel
  rw [ab_pos (show 0 ≤ D by grind)] at hd
  have k1 := Rat.mul_le_mul_of_nonneg_right hu.2 (show 0 ≤ D by grind)
  have hd' := ab_le.1 hd
  have d0 : 0 < d := by grind
  obtain ⟨y, hy⟩ : ∃ y, y = x / D := ⟨_, rfl⟩
  obtain ⟨z, hz⟩ : ∃ z, z = x / d := ⟨_, rfl⟩
  have ey : y * D = x := by rw [hy]; exact div_self_mul _ (by grind)
  have ez : z * d = x := by rw [hz]; exact div_self_mul _ (by grind)
  rw [← hz] at hq
  rw [← hy] at hx ⊢
  -- z - y = y (D - d) / d
  have e : (z - y) * d = y * (D - d) := by grind
  have e2 : ab (z - y) * d ≤ ab y * (uu * D) := by
    have : ab (z - y) * d = ab y * ab (D - d) := by rw [← ab_mul, ← e, ab_mul, ab_pos (Rat.le_of_lt d0)]
    rw [this, ab_comm D d]
    exact Rat.mul_le_mul_of_nonneg_left hd (ab_nn y)
  have dD : D * (999999 / 1000000) ≤ d := by grind
  have n := ab_nn y
  have n2 := ab_nn (z - y)
  have h1 : ab (z - y) ≤ 1000002 / 1000000 * (uu * ab y) := by
    have m1 := Rat.mul_le_mul_of_nonneg_left dD n2
    have hDp : 0 < D * (999999 / 1000000) := by grind
    refine Rat.le_of_mul_le_mul_right (c := D * (999999 / 1000000)) ?_ hDp
    refine Rat.le_trans m1 (Rat.le_trans e2 ?_)
    have p := Rat.mul_nonneg (Rat.mul_nonneg (Rat.le_of_lt hu.1) n) (show 0 ≤ D by grind)
    grind
  have p := Rat.mul_nonneg (Rat.le_of_lt hu.1) n
  have k2 := Rat.mul_le_mul_of_nonneg_right hu.2 n
  have h2 : ab z ≤ 1000002 / 1000000 * ab y := by
    have := ab_tri z y 0
    rw [show z - 0 = z by grind, show y - 0 = y by grind] at this
    grind
  have h3 := Rat.mul_le_mul_of_nonneg_left h2 (Rat.le_of_lt hu.1)
  have h4 := ab_tri q z y
  grind
theorem GS_le {x : Rat} (h : 0 ≤ x) (h2 : x ≤ 172 / 1000) : GS x 13 ≤ 10306 / 10000 := by
  have g := GS_nn h 13
  have hs := GS_sum x 13
  have hp := pn_nn h (2 * 13)
  have x2 := mul_mono h h2 h h2
  rcases (show GS x 13 ≤ 10306 / 10000 ∨ 10306 / 10000 < GS x 13 by grind) with q | q
  · exact q
  · exfalso
    have := Rat.mul_le_mul_of_nonneg_right (Rat.le_of_lt q) (show 0 ≤ 1 - x * x by grind)
    grind
/-- the sum's change, where the sign stays. -/
theorem AT_near {x u : Rat} (hu : ab u ≤ 1719 / 10000) (h : ab (x - u) ≤ 1 / 100000 * ab u) : ab (2 * AT x 13 - 2 * AT u 13) ≤ 10306 / 10000 * (2 * ab (x - u)) := by
  have pos : ∀ y v : Rat, 0 ≤ v → v ≤ y → y ≤ 172 / 1000 → ab (2 * AT y 13 - 2 * AT v 13) ≤ 10306 / 10000 * (2 * (y - v)) ∧ ab (2 * AT v 13 - 2 * AT y 13) ≤ 10306 / 10000 * (2 * (y - v)) := by
    intro y v hv hy hy2
    obtain ⟨a, b⟩ := AT_diff hv hy 13
    have g := GS_le (show 0 ≤ y by grind) hy2
    have g0 := GS_nn hv 13
    have m := Rat.mul_le_mul_of_nonneg_left g (show 0 ≤ y - v by grind)
    have m0 := Rat.mul_nonneg (show 0 ≤ y - v by grind) g0
    constructor <;> (rw [ab_le]; constructor <;> grind)
  have hu' := ab_le.1 hu
  have h' := ab_le.1 h
  rcases (show 0 ≤ u ∨ u < 0 by grind) with q | q
  · rw [ab_pos q] at h' hu
    rcases (show u ≤ x ∨ x < u by grind) with r | r
    · rw [ab_pos (show 0 ≤ x - u by grind)]
      exact (pos x u q r (by grind)).1
    · rw [ab_comm x u, ab_pos (show 0 ≤ u - x by grind)]
      exact (pos u x (by grind) (Rat.le_of_lt r) (by grind)).2
  · have e : ab u = -u := by unfold ab; grind
    rw [e] at h' hu
    have eA : 2 * AT x 13 - 2 * AT u 13 = 2 * AT (-u) 13 - 2 * AT (-x) 13 := by rw [AT_neg, AT_neg]; grind
    rw [eA]
    rcases (show -u ≤ -x ∨ -x < -u by grind) with r | r
    · rw [ab_comm x u, ab_pos (show 0 ≤ u - x by grind), show u - x = -x - -u by grind]
      exact (pos (-x) (-u) (by grind) r (by grind)).2
    · rw [ab_pos (show 0 ≤ x - u by grind), show x - u = -u - -x by grind]
      exact (pos (-u) (-x) (by grind) (Rat.le_of_lt r) (by grind)).1
/-- the odd sum of a float near to u. -/
theorem odd_near {f : Nat} {x u : Rat} (hf : V f x) (hu : ab u ≤ 1719 / 10000) (h0 : pw (-249) ≤ ab u) (h : ab (x - u) ≤ 20001 / 10000 * (uu * ab u)) : ∃ o, V (oddF f) o ∧ ab (o - 2 * AT u 13) ≤ 313 / 100 * (uu * (2 * ab u)) := by
  have huu : 0 < uu ∧ uu ≤ 1 / 100000000 := by decide +kernel
  have n := ab_nn u
  have k := Rat.mul_le_mul_of_nonneg_right huu.2 n
  have p := Rat.mul_nonneg (Rat.le_of_lt huu.1) n
  have hx5 : ab (x - u) ≤ 1 / 100000 * ab u := by
    generalize ab (x - u) = B at *
    generalize uu * ab u = P at *
    generalize ab u = U1 at *
    grind
  have t1 := ab_tri x u 0
  rw [show x - 0 = x by grind, show u - 0 = u by grind] at t1
  have t2 := ab_tri u x 0
  rw [show x - 0 = x by grind, show u - 0 = u by grind, ab_comm u x] at t2
  have p2 : pw (-249) = 2 * pw (-250) := by
    rw [show (-249 : Int) = 1 + -250 by omega, pw_add]
    have : pw 1 = 2 := by decide +kernel
    rw [this]
  have pp := pw_pos (-250)
  obtain ⟨o, ho, r⟩ := odd_val hf (by grind) (by grind)
  refine ⟨o, ho, ?_⟩
  have a := AT_near hu hx5
  have x2 := ab_tri o (2 * AT x 13) (2 * AT u 13)
  have k2 := Rat.mul_le_mul_of_nonneg_left t1 (Rat.le_of_lt huu.1)
  have k3 := Rat.mul_le_mul_of_nonneg_left k (Rat.le_of_lt huu.1)
  generalize ab (o - 2 * AT u 13) = A1 at *
  generalize ab (o - 2 * AT x 13) = A2 at *
  generalize ab (2 * AT x 13 - 2 * AT u 13) = A3 at *
  generalize ab (x - u) = B at *
  generalize ab x = X at *
  generalize ab u = U1 at *
  have m := Rat.mul_le_mul_of_nonneg_left h (Rat.le_of_lt huu.1)
  have e1 : uu * (20001 / 10000 * (uu * U1)) = 20001 / 10000 * (uu * (uu * U1)) := by grind
  have e2 : uu * (B + U1) = uu * B + uu * U1 := by grind
  have e3 : uu * (1 / 100000000 * U1) = 1 / 100000000 * (uu * U1) := by grind
  rw [e1] at m
  rw [e2] at k2
  rw [e3] at k3
  have e4 : uu * (2 * X) = 2 * (uu * X) := by grind
  have e5 : uu * (2 * U1) = 2 * (uu * U1) := by grind
  rw [e4] at r
  rw [e5]
  generalize uu * (uu * U1) = Q at *
  generalize uu * X = R at *
  generalize uu * B = S at *
  generalize uu * U1 = P at *
  clear e1 e2 e3 e4 e5 t1 t2 k hu h0 huu
  grind
end Go.Proofs.YtcfkhhnkboealaaDoor
