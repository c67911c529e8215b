/- Logarithms: those of powers of two by their steps, and how great those of floats above nought are. No condition. -/
import Derived.Test.YtojldamhdnmdpaaLog2
import Derived.Test.YtojldamhdnmdpaaBd
import Derived.Test.YtojldamhdnmdpaaDiv
import Derived.Test.YtojldamhdnmdpaaPos
namespace Go.Proofs.Ytojldamhdnmdpaa
open Go.RowKit
set_option linter.unusedVariables false
set_option linter.unusedSimpArgs false
set_option maxRecDepth 100000

def tw_one : Nat := 4607182418800017408
def tw_half : Nat := 4602678819172646912
def cH' : Nat := 4604418534311723008
def cL' : Nat := 4461442080421002358
theorem fadd_zero {x : Nat} (hl : x < 18446744073709551616) (hf : Proofs.Ytojldamhdnmdpaa.fin x = true) (h : rung x ≠ 0 ∨ x = 0) : fadd x 0 = x := by
  rcases h with h | h
  · have hs : sval x ≠ 0 := fun e => h ((sval_zero_iff x).1 e)
    have hr := fin_rung hf
    have hm := mval_pos (show 0 < rung x by omega)
    rw [fadd_fin hf (by decide +kernel), sval_zero, Int.add_zero, if_neg hs]
    have e1 : rndN (sval x).natAbs = rung x := by
      rcases sval_cases x with ⟨_, e⟩ | ⟨_, e⟩ <;> rw [e]
      · rw [Int.natAbs_natCast]; exact rnd_mval hr
      · rw [Int.natAbs_neg, Int.natAbs_natCast]; exact rnd_mval hr
    have e2 : decide (sval x < 0) = sgn x := by
      rcases sval_cases x with ⟨a, e⟩ | ⟨a, e⟩ <;> rw [a, e] <;> simp <;> omega
    rw [e1, e2]
    exact (num_wd hl).symm
  · rw [h]; decide +kernel
theorem one_closed : (feq 4607182418800017408 0 || (isInf 4607182418800017408 0 || isN 4607182418800017408)) = false ∧ normE 4607182418800017408 = 0 ∧ normF 4607182418800017408 = 4607182418800017408 ∧ flt 4607182418800017408 0 = false := by decide +kernel
theorem expOf_one (k : Int) : expOf 4607182418800017408 k = k := by
  unfold expOf; rw [one_closed.2.1, one_closed.2.2.1]; omega
theorem scale_one {k : Int} (h1 : -1022 ≤ k) (h2 : k ≤ 1023) : scaleF 4607182418800017408 k = (k + 1023).toNat * 4503599627370496 := by
  unfold scaleF
  rw [one_closed.1, if_neg (by simp), expOf_one, if_neg (by omega), if_neg (by omega), if_neg (by omega), one_closed.2.2.1]
  rw [show 4607182418800017408 / 9223372036854775808 * 9223372036854775808 + (k + 1023).toNat * 4503599627370496 + 4607182418800017408 % 4503599627370496 = (k + 1023).toNat * 4503599627370496 by omega]
  have hb : (k + 1023).toNat * 4503599627370496 < 9218868437227405312 := by omega
  rw [p_mul (by decide) hb, mval_one, Nat.mul_comm, ← e1_eq, rndQ_U, rnd_mval hb]
theorem scale_one_inf {k : Int} (h1 : 1023 < k) : scaleF 4607182418800017408 k = 9218868437227405312 := by
  unfold scaleF
  rw [one_closed.1, if_neg (by simp), expOf_one, if_neg (by omega), if_pos h1, one_closed.2.2.1, if_neg (by rw [one_closed.2.2.2]; simp)]
  rfl
theorem scale_one_sub : ∀ j : Nat, j < 52 → scaleF 4607182418800017408 ((j : Int) - 1074) = 2 ^ j ∧ partF (2 ^ j) = 4602678819172646912 ∧ partE (2 ^ j) = (j : Int) - 1073 := by decide +kernel
theorem pos_plain {r : Nat} (h0 : 0 < r) (h1 : r < 9218868437227405312) : isN r = false ∧ feq r 0 = false ∧ isInf r 0 = false ∧ isInf r 1 = false ∧ flt r 0 = false := by
  have hn : isN r = false := num_pos (by omega)
  have := mval_le_iff.2 (show r ≤ 9218868437227405311 by omega)
  refine ⟨hn, by rw [feq_zero hn, p_rung h1]; simp; omega, ?_, ?_, ?_⟩
  · unfold isInf; rw [if_pos rfl, fabs_of hn, p_rung h1, flt_eq, isN_max, hn, sval_max, p_sval h1]
    simp; omega
  · rw [isInf_one, flt_eq, isN_max, hn, sval_max, p_sval h1]
    simp; omega
  · rw [flt_eq, hn, sval_zero, p_sval h1, show isN 0 = false by decide +kernel]; simp
theorem part_pow {e : Nat} (h1 : 1 ≤ e) (h2 : e ≤ 2046) : partF (e * 4503599627370496) = 4602678819172646912 ∧ partE (e * 4503599627370496) = (e : Int) - 1022 := by
  have hb : e * 4503599627370496 < 9218868437227405312 := by omega
  obtain ⟨p1, p2, p3, p4, p5⟩ := pos_plain (show 0 < e * 4503599627370496 by omega) hb
  have hc : flt (fabs (e * 4503599627370496)) 4503599627370496 = false := by
    have := mval_le_iff.2 (show 4503599627370496 ≤ e * 4503599627370496 by omega)
    rw [fabs_of p1, p_rung hb, flt_eq, p1, p_sval hb, p_sval (by decide)]
    simp; omega
  have hN : normF (e * 4503599627370496) = e * 4503599627370496 := by unfold normF; rw [hc]; rfl
  have hE : normE (e * 4503599627370496) = 0 := by unfold normE; rw [hc]; rfl
  have hB : fracB (e * 4503599627370496) = 4602678819172646912 := by unfold fracB; omega
  unfold partF partE
  rw [p2, p3, p1, if_neg (by simp), if_neg (by simp), hN, hE, hB]
  refine ⟨by decide +kernel, ?_⟩
  omega
theorem two_parts {k : Int} (h1 : -1074 ≤ k) (h2 : k ≤ 1023) : 0 < scaleF 4607182418800017408 k ∧ scaleF 4607182418800017408 k < 9218868437227405312 ∧ partF (scaleF 4607182418800017408 k) = 4602678819172646912 ∧ partE (scaleF 4607182418800017408 k) = k + 1 := by
  by_cases h : k < -1022
  · obtain ⟨a, b, c⟩ := scale_one_sub (k + 1074).toNat (by omega)
    rw [show ((k + 1074).toNat : Int) - 1074 = k by omega] at a
    rw [a, b, c]
    have : 2 ^ (k + 1074).toNat ≤ 2 ^ 52 := Nat.pow_le_pow_right (by decide) (by omega)
    have e52 : (2 : Nat) ^ 52 = 4503599627370496 := by decide
    refine ⟨Nat.two_pow_pos _, by omega, rfl, by omega⟩
  · rw [scale_one (by omega) h2]
    obtain ⟨a, b⟩ := part_pow (e := (k + 1023).toNat) (by omega) (by omega)
    refine ⟨by omega, by omega, a, by rw [b]; omega⟩
theorem ofInt_mul_ok {k : Int} (h1 : -1074 ≤ k) (h2 : k ≤ 1074) : fadd (fmul (ofInt k) 4461442080421002358) 0 = fmul (ofInt k) 4461442080421002358 := by
  have b : Bd (ofInt k) 11 := by
    rw [ofInt_eq]
    exact Bd.of (by decide) (Nat.mul_le_mul_right _ (by omega))
  have c : Bd 4461442080421002358 1 := Bd.const' (by decide) (by decide +kernel) (by decide +kernel) (by decide)
  have d := b.mul c (by decide)
  refine fadd_zero d.lt d.fin ?_
  by_cases hk : k = 0
  · right; rw [hk]; decide +kernel
  · left
    rw [fmul_fin b.fin c.fin, wd_rung (rndQ_le _ _)]
    have h3 : mval (rung (ofInt 1)) ≤ mval (rung (ofInt k)) := by
      rw [ofInt_eq, ofInt_eq, wd_rung (rndN_le _), wd_rung (rndN_le _)]
      exact mval_le_iff.2 (rndN_mono (Nat.mul_le_mul_right _ (by omega)))
    have h4 := rndQ_mono (d := 1074) (Nat.mul_le_mul_right (mval (rung 4461442080421002358)) h3)
    have h5 : 0 < rndQ (mval (rung (ofInt 1)) * mval (rung 4461442080421002358)) 1074 := by decide +kernel
    exact Nat.ne_of_gt (Nat.lt_of_lt_of_le h5 h4)
theorem half_m : flt 4602678819172646912 4604544271217802189 = true ∧ fmul 4611686018427387904 4602678819172646912 = 4607182418800017408 ∧ oddF (fdiv (fsub 4607182418800017408 4607182418800017408) (fadd 4607182418800017408 4607182418800017408)) = 0 := by decide +kernel
/-- the law on powers of two. -/
theorem log_two {k : Int} (h1 : -1074 ≤ k) (h2 : k ≤ 1074) (g1 : feq (scaleF 4607182418800017408 k) 0 = false) (g2 : isInf (scaleF 4607182418800017408 k) 1 = false) :
    feq (logF (scaleF 4607182418800017408 k)) (fadd (fmul (ofInt k) 4604418534311723008) (fmul (ofInt k) 4461442080421002358)) = true := by
  have hk : k ≤ 1023 := by
    rcases Int.lt_or_le 1023 k with h | h
    · rw [scale_one_inf h, show isInf 9218868437227405312 1 = true by decide +kernel] at g2; cases g2
    · exact h
  obtain ⟨v0, v1, p1, p2⟩ := two_parts h1 hk
  obtain ⟨r1, r2, r3, r4, r5⟩ := pos_plain v0 v1
  obtain ⟨q1, q2, q3⟩ := half_m
  rw [logF_a r1 r4 r5 r2]
  have hm := logM_t (x := scaleF 4607182418800017408 k) (by rw [p1]; exact q1)
  rw [hm.1, hm.2, p1, q2, q3, p2, show k + 1 - 1 = k by omega, ofInt_mul_ok h1 h2]
  have hn : isN (fadd (fmul (ofInt k) 4604418534311723008) (fmul (ofInt k) 4461442080421002358)) = false := by
    have b : Bd (ofInt k) 11 := by
      rw [ofInt_eq]
      exact Bd.of (by decide) (Nat.mul_le_mul_right _ (by omega))
    exact (((b.mul (Bd.const' (c := 4604418534311723008) (k := 1) (by decide) (by decide +kernel) (by decide +kernel) (by decide)) (by decide)).add (b.mul (Bd.const' (c := 4461442080421002358) (k := 1) (by decide) (by decide +kernel) (by decide +kernel) (by decide)) (by decide)) (by decide))).notN
  rw [feq_self, hn]; rfl

theorem rungAdd2 {x y F G : Nat} (h : rung x ≤ F) (k : rung y ≤ G) (hF : F < 9218868437227405312) (hG : G < 9218868437227405312) : rung (fadd x y) ≤ fadd F G := by
  have a := sval_abs_le h
  have b := sval_abs_le k
  have hf : Proofs.Ytojldamhdnmdpaa.fin x = true := by unfold Proofs.Ytojldamhdnmdpaa.fin; simp; omega
  have hg : Proofs.Ytojldamhdnmdpaa.fin y = true := by unfold Proofs.Ytojldamhdnmdpaa.fin; simp; omega
  rw [fadd_fin hf hg, wd_rung (rndN_le _), p_add hF hG]
  exact rndN_mono (by omega)
theorem rung_ofInt {n : Int} {M : Nat} (h : n.natAbs ≤ M) : rung (ofInt n) ≤ ofInt M := by
  rw [ofInt_eq, ofInt_eq, wd_rung (rndN_le _)]
  have : decide ((M : Int) < 0) = false := by simp
  rw [this, wdF]
  exact rndN_mono (Nat.mul_le_mul_right _ (by omega))

/-! the odd sum of a small float. -/
def oddM : Nat := fmul 4598175219545276416 4598175219545276416
def oddQM : Nat → Nat := qSeq oddM
theorem oddQM_ok : ∀ j : Nat, j < 12 → oddQM j < 9218868437227405312 := by decide +kernel
theorem oddQM_c : ∀ j : Nat, j < 12 → fdiv 4607182418800017408 (ofInt (23 - 2 * (j : Int))) < 9218868437227405312 ∧ fmul oddM (oddQM j) < 9218868437227405312 := by decide +kernel
theorem oddM_ok : oddM < 9218868437227405312 := by decide +kernel
theorem oddq_le {s : Nat} (hs : s ≤ oddM) : ∀ j : Nat, j < 12 → qSeq s j ≤ oddQM j
  | 0, _ => Nat.le_refl _
  | j + 1, h => by
    have ih := oddq_le hs j (by omega)
    obtain ⟨c1, c2⟩ := oddQM_c j (by omega)
    have m := mulP hs ih oddM_ok (oddQM_ok j (by omega))
    exact addP (Nat.le_refl _) m c1 c2
def cO : Nat := fadd (fmul 4611686018427387904 4598175219545276416) (fmul (fmul 4611686018427387904 4598175219545276416) (fmul oddM (oddQM 11)))
theorem cO_ok : fmul 4611686018427387904 4598175219545276416 < 9218868437227405312 ∧ fmul oddM (oddQM 11) < 9218868437227405312 ∧ fmul (fmul 4611686018427387904 4598175219545276416) (fmul oddM (oddQM 11)) < 9218868437227405312 ∧ cO < 9218868437227405312 ∧ rung 4611686018427387904 ≤ 4611686018427387904 ∧ oddQM 11 < 9218868437227405312 := by decide +kernel
theorem odd_le {u : Nat} (hu : rung u ≤ 4598175219545276416) : rung (oddF u) ≤ cO := by
  obtain ⟨o1, o2, o3, o4, o5, o6⟩ := cO_ok
  have s1 := rungMul hu hu (by decide) (by decide)
  rw [Bool.xor_self, wdF] at s1
  have hs : fmul u u ≤ oddM := by rw [s1.1]; exact s1.2
  have hq := oddq_le hs 11 (by decide)
  have a1 := (rungMul (x := 4611686018427387904) o5 hu (by decide) (by decide)).2
  have a2 := mulP hs hq oddM_ok o6
  have a3 : rung (fmul (fmul u u) (qSeq (fmul u u) 11)) ≤ fmul oddM (oddQM 11) := by rw [p_rung (by omega)]; exact a2
  have a4 := (rungMul a1 a3 o1 o2).2
  exact rungAdd2 a1 a4 o1 o3

/-! the argument of the odd sum. -/
def cB1 : Nat := fsub 4609047870845172685 4607182418800017408
def cB2 : Nat := fadd 4604544271217802189 4607182418800017408
theorem m_closed : cB1 < 9218868437227405312 ∧ cB2 < 9218868437227405312 ∧ 0 < cB2 ∧ rndN (mval 4607182418800017408 - mval 4604544271217802189) ≤ cB1 ∧ mval cB1 * U * 1048577 ≤ mval 4598175219545276416 * mval cB2 * 1048576 ∧ fadd 4609047870845172685 4607182418800017408 < 9218868437227405312 := by decide +kernel
theorem m_arg {m : Nat} (h1 : 4604544271217802189 ≤ m) (h2 : m ≤ 4609047870845172685) : rung (fdiv (fsub m 4607182418800017408) (fadd m 4607182418800017408)) ≤ 4598175219545276416 := by
  obtain ⟨c1, c2, c3, c4, c5, c6⟩ := m_closed
  have hm : m < 9218868437227405312 := by omega
  have n1 : Proofs.Ytojldamhdnmdpaa.fin (fsub m 4607182418800017408) = true ∧ rung (fsub m 4607182418800017408) ≤ cB1 := by
    have v1 := mval_le_iff.2 h1
    have v2 := mval_le_iff.2 h2
    have e1 : cB1 = rndN (mval 4609047870845172685 - mval 4607182418800017408) := p_sub (by decide) (by decide)
    rw [fsub_fin (p_fin hm) (p_fin (by decide)) (by decide), p_sval hm, p_sval (by decide)]
    have hle : rndN ((mval m : Int) - (mval 4607182418800017408 : Int)).natAbs ≤ cB1 := by
      rcases Nat.le_total m 4607182418800017408 with g | g
      · have v3 := mval_le_iff.2 g
        refine Nat.le_trans (rndN_mono ?_) c4
        omega
      · have v3 := mval_le_iff.2 g
        rw [e1]
        exact rndN_mono (by omega)
    constructor
    · unfold Proofs.Ytojldamhdnmdpaa.fin; rw [wd_rung (rndN_le _)]; simp; omega
    · rw [wd_rung (rndN_le _)]; exact hle
  have d1 : cB2 ≤ fadd m 4607182418800017408 := addP h1 (Nat.le_refl _) hm (by decide)
  have d2 : fadd m 4607182418800017408 ≤ fadd 4609047870845172685 4607182418800017408 := addP h2 (Nat.le_refl _) (by decide) (by decide)
  have d3 : fadd m 4607182418800017408 < 9218868437227405312 := by omega
  obtain ⟨r, hr, hrc⟩ := fdiv_le (c := 4598175219545276416) n1.1 (p_fin d3) (by rw [p_rung d3]; omega) (by decide) (by
    rw [p_rung d3]
    have v1 := mval_le_iff.2 n1.2
    have v2 := mval_le_iff.2 d1
    refine Nat.le_trans (Nat.mul_le_mul_right _ (Nat.mul_le_mul_right _ v1)) (Nat.le_trans c5 ?_)
    exact Nat.mul_le_mul_right _ (Nat.mul_le_mul_left _ v2))
  rw [hr, wd_rung (by omega)]; exact hrc

theorem log_parts {r : Nat} (h0 : 0 < r) (h1 : r < 9218868437227405312) : 4604544271217802189 ≤ logM r ∧ logM r ≤ 4609047870845172685 ∧ (logE r).natAbs ≤ 1100 := by
  have hn : isN r = false := num_pos (by omega)
  have hf := p_fin h1
  obtain ⟨_, z1, z2, _, _⟩ := pos_plain h0 h1
  have e1 : partF r = nrm (fracB (normF r)) ∧ partE r = normE r + (normF r / 4503599627370496 % 2048 : Nat) - 1022 := by
    unfold partF partE; rw [z1, z2, hn, if_neg (by simp), if_neg (by simp)]; exact ⟨rfl, rfl⟩
  have hN : normF r < 9223372036854775808 := by
    unfold normF
    split
    · rw [p_mul h1 (by decide)]; have := rndQ_le (mval r * mval 4841369599423283200) 1074; omega
    · omega
  have hB : fracB (normF r) = 4602678819172646912 + normF r % 4503599627370496 := by
    unfold fracB; omega
  have hP : partF r = 4602678819172646912 + normF r % 4503599627370496 := by
    rw [e1.1, hB, nrm_of_not (num_pos (by omega))]
  have hE := normE_bd r
  have hlt : normF r / 4503599627370496 % 2048 < 2048 := Nat.mod_lt _ (by decide)
  have hlt2 : normF r % 4503599627370496 < 4503599627370496 := Nat.mod_lt _ (by decide)
  generalize normF r = NR at *
  generalize normE r = NE at *
  have hp2 : partF r < 9218868437227405312 := by omega
  cases hc : flt (partF r) 4604544271217802189
  · have hm := logM_f hc
    rw [hm.1, hm.2]
    rw [flt_c (num_pos (by omega)) (by decide +kernel) (by decide +kernel) (by decide +kernel), p_sgn hp2, p_rung hp2, show rung 4604544271217802189 = 4604544271217802189 by decide +kernel] at hc
    simp at hc
    omega
  · have hm := logM_t hc
    rw [hm.1, hm.2]
    rw [flt_c (num_pos (by omega)) (by decide +kernel) (by decide +kernel) (by decide +kernel), p_sgn hp2, p_rung hp2, show rung 4604544271217802189 = 4604544271217802189 by decide +kernel] at hc
    simp at hc
    have g1 : fmul 4611686018427387904 4602678819172646912 ≤ fmul 4611686018427387904 (partF r) := mulP (Nat.le_refl _) (by omega) (by decide) hp2
    have g2 : fmul 4611686018427387904 (partF r) ≤ fmul 4611686018427387904 4604544271217802189 := mulP (Nat.le_refl _) (by omega) (by decide) (by decide)
    have g3 : fmul 4611686018427387904 4602678819172646912 = 4607182418800017408 ∧ fmul 4611686018427387904 4604544271217802189 = 4609047870845172685 := by decide +kernel
    rw [g3.1] at g1
    rw [g3.2] at g2
    exact ⟨Nat.le_trans (by decide) g1, g2, by omega⟩
def cN : Nat := ofInt 1100
def cF : Nat := fadd (fmul cN 4604418534311723008) (fadd (fmul cN 4461442080421002358) cO)
theorem cF_ok : cN < 9218868437227405312 ∧ fmul cN 4604418534311723008 < 9218868437227405312 ∧ fmul cN 4461442080421002358 < 9218868437227405312 ∧ fadd (fmul cN 4461442080421002358) cO < 9218868437227405312 ∧ cF < 4652007308841189376 := by decide +kernel
/-- logarithms are below a thousand. -/
theorem log_bd {r : Nat} (h0 : 0 < r) (h1 : r < 9218868437227405312) : rung (logF r) < 4652007308841189376 := by
  have hn : isN r = false := num_pos (by omega)
  obtain ⟨_, z1, _, z2, z3⟩ := pos_plain h0 h1
  obtain ⟨b1, b2, b3⟩ := log_parts h0 h1
  obtain ⟨c1, c2, c3, c4, c5⟩ := cF_ok
  obtain ⟨o1, o2, o3, o4, o5, o6⟩ := cO_ok
  rw [logF_a hn z2 z3 z1]
  have o := odd_le (m_arg b1 b2)
  have e : rung (ofInt (logE r)) ≤ cN := rung_ofInt b3
  have k1 := (rungMul (y := 4604418534311723008) e (Nat.le_of_eq (by decide +kernel : rung 4604418534311723008 = 4604418534311723008)) c1 (by decide)).2
  have k2 := (rungMul (y := 4461442080421002358) e (Nat.le_of_eq (by decide +kernel : rung 4461442080421002358 = 4461442080421002358)) c1 (by decide)).2
  have k3 := rungAdd2 k2 o c3 o4
  have k4 := rungAdd2 k1 k3 c2 c4
  exact Nat.lt_of_le_of_lt k4 c5
theorem log_small {r : Nat} (h0 : 0 < r) (h1 : r < 9218868437227405312) : flt (fabs (logF r)) 4652007308841189376 = true := by
  have h := log_bd h0 h1
  have hn : isN (logF r) = false := by rw [notN_iff]; omega
  rw [fabs_of hn, flt_eq, num_pos (by omega), show isN 4652007308841189376 = false by decide +kernel, sval_pos (by omega), sval_pos (by decide)]
  have := mval_lt_iff.2 h
  simp; omega
end Go.Proofs.Ytojldamhdnmdpaa
