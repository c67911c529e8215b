/- Complex roots: above nought, not infinite in between. Plain. -/
import Derived.Test.YtndknkdfbjfjcaaRmi
import Derived.Test.YtndknkdfbjfjcaaRootC
namespace Go.Proofs.Ytndknkdfbjfjcaa
set_option linter.unusedVariables false
set_option linter.unusedSimpArgs false
set_option maxRecDepth 100000
theorem scaled_half {p : Nat} (h0 : 0 < p) (hp : p < 9218868437227405312) {n : Int} (hn : n = -(partE p) ∨ n = -(partE p) + 1) : 4602678819172646912 ≤ rndE (mval p) n ∧ rndE (mval p) n ≤ 4611686018427387904 := by
  obtain ⟨M, hM1, hM2, hu, hx, _, _⟩ := scaled_great h0 hp
  rcases hn with rfl | rfl
  · rw [hu]; omega
  · have e := rndE_shift (mval p) 1 (-(partE p))
    rw [show ((1 : Nat) : Int) = 1 from rfl] at e
    rw [← e]
    have e2 : mval p * 2 ^ 1 * 2 ^ (-(partE p)).toNat = (2 * (M * zz)) * 2 ^ (partE p).toNat := by
      rw [Nat.mul_right_comm, hx, Nat.mul_right_comm, Nat.mul_comm (M * zz) (2 ^ 1), Nat.pow_one]
    unfold rndE
    rw [Int.neg_neg, e2, rndQ_cancel]
    have z1 := zz_one
    have z2 : mval 4602678819172646912 = 4503599627370496 * zz := zz_place (q := 4503599627370496) (by decide) (by decide)
    have z3 := two_one
    have q1 : 4503599627370496 * zz ≤ M * zz := Nat.mul_le_mul_right _ hM1
    have q2 : M * zz ≤ 9007199254740992 * zz := Nat.mul_le_mul_right _ (Nat.le_of_lt hM2)
    constructor
    · apply le_rndN_of (by decide); omega
    · apply rndN_le_of (by decide); omega
theorem rs_c1 : mval 4611686018427387904 * mval 4611686018427387904 ≤ mval 4616189618054758400 * 2 ^ e1 := by decide +kernel
theorem rs_c2 : mval 4598175219545276416 * 2 ^ e1 ≤ mval 4602678819172646912 * mval 4602678819172646912 := by decide +kernel
theorem rs_c3 : mval 4616189618054758400 + mval 4616189618054758400 ≤ mval 4620693217682128896 := by decide +kernel
theorem rs_c4 : (mval (4589168020290535424 - 1) + mval 4589168020290535424) * (mval (4589168020290535424 - 1) + mval 4589168020290535424) < 4 * (mval 4575657221408423936 * U) := by decide +kernel
theorem rs_c5 : 4 * (mval 4620693217682128896 * U) < (mval 4616189618054758400 + mval (4616189618054758400 + 1)) * (mval 4616189618054758400 + mval (4616189618054758400 + 1)) := by decide +kernel
theorem rs_c6 : mval 4611686018427387904 + mval 4616189618054758400 ≤ mval 4620693217682128896 := by decide +kernel
def rsK : Nat := 1000
theorem rs_c7 : 2 ^ rsK ≤ mval 4589168020290535424 := by decide +kernel
theorem rs_sqrt {r : Nat} (h1 : 4575657221408423936 ≤ r) (h2 : r ≤ 4620693217682128896) : 4589168020290535424 ≤ fsqrt r ∧ fsqrt r ≤ 4616189618054758400 := by
  have m1 := Nat.mul_le_mul_left 4 (Nat.mul_le_mul_right U (mval_le_iff.2 h1))
  have m2 := Nat.mul_le_mul_left 4 (Nat.mul_le_mul_right U (mval_le_iff.2 h2))
  refine ⟨sqrt_lo (by omega) (by omega) (by decide) (by decide) (Nat.lt_of_lt_of_le rs_c4 m1), sqrt_hi (by omega) (by omega) (Nat.lt_of_le_of_lt m2 rs_c5)⟩
theorem rs_sq {x : Nat} (h : x ≤ 4611686018427387904) : rndQ (mval x * mval x) e1 ≤ 4616189618054758400 := rndQ_le_of (by decide) (Nat.le_trans (Nat.mul_le_mul (mval_le_iff.2 h) (mval_le_iff.2 h)) rs_c1)
theorem rs_sq2 {x : Nat} (h : 4602678819172646912 ≤ x) : 4598175219545276416 ≤ rndQ (mval x * mval x) e1 := le_rndQ_of (by decide) (Nat.le_trans rs_c2 (Nat.mul_le_mul (mval_le_iff.2 h) (mval_le_iff.2 h)))
/-- the inner part of a root, of scaled parts. -/
theorem rs_inner {A b : Nat} (hA : A ≤ 4611686018427387904) (hb : b ≤ 4611686018427387904) (h : 4602678819172646912 ≤ A ∨ 4602678819172646912 ≤ b) :
    4589168020290535424 ≤ fsqrt (fdiv (fadd A (fsqrt (fadd (fmul A A) (fmul b b)))) 4611686018427387904) ∧ fsqrt (fdiv (fadd A (fsqrt (fadd (fmul A A) (fmul b b)))) 4611686018427387904) ≤ 4616189618054758400 := by
  rw [mul1074 (by omega) (by omega), mul1074 (by omega) (by omega)]
  have a1 := rs_sq hA
  have b1 := rs_sq hb
  have ab : 4598175219545276416 ≤ rndQ (mval A * mval A) e1 ∨ 4598175219545276416 ≤ rndQ (mval b * mval b) e1 := h.imp rs_sq2 rs_sq2
  generalize rndQ (mval A * mval A) e1 = a2 at *
  generalize rndQ (mval b * mval b) e1 = b2 at *
  rw [p_add (show a2 < 9218868437227405312 by omega) (show b2 < 9218868437227405312 by omega)]
  have ma := mval_le_iff.2 a1
  have mb := mval_le_iff.2 b1
  have c3 := rs_c3
  have s1 : rndN (mval a2 + mval b2) ≤ 4620693217682128896 := rndN_le_of (by decide) (by omega)
  have s2 : 4575657221408423936 ≤ rndN (mval a2 + mval b2) := by
    apply le_rndN_of (by decide)
    rcases ab with q | q
    · have := mval_le_iff.2 (show 4575657221408423936 ≤ a2 by omega); omega
    · have := mval_le_iff.2 (show 4575657221408423936 ≤ b2 by omega); omega
  obtain ⟨q1, q2⟩ := rs_sqrt s2 s1
  generalize fsqrt (rndN (mval a2 + mval b2)) = q at *
  rw [p_add (by omega) (by omega)]
  have mA := mval_le_iff.2 hA
  have mq := mval_le_iff.2 q2
  have c6 := rs_c6
  have t1 : rndN (mval A + mval q) ≤ 4620693217682128896 := rndN_le_of (by decide) (by omega)
  have t2 : 4589168020290535424 ≤ rndN (mval A + mval q) := by
    apply le_rndN_of (by decide)
    have := mval_le_iff.2 q1; omega
  generalize rndN (mval A + mval q) = t at *
  rw [fdiv_two (p_fin (by omega)) (by rw [p_rung (by omega)]; omega), p_sgn (by omega), p_rung (by omega), wd_f0]
  exact rs_sqrt (by omega) (by omega)
theorem scale_wd {g : Nat} (hl : g < 18446744073709551616) (hg : fin g = true) (n : Int) : scaleF g n = wd (sgn g) (rndE (mval (rung g)) n) := by
  by_cases h : rung g = 0
  · rw [scale_nought (fin_notN hg) h, h, mval_zero, rndE_zero]
    have := wd_self hl; rw [h] at this; exact this.symm
  · exact scale_val hl hg h n
theorem mul_wd (s : Bool) {b : Nat} (hb : b ≤ 9218868437227405312) : fmul (wd s b) (wd s b) = fmul b b := by
  cases s
  · rw [wd_f0]
  · have e : wd true b = fneg b := by rw [← wd_f0 b, wd_neg hb, wd_f0]; rfl
    rw [e, fmul_neg2 _ _ (by omega) (by omega)]
/-- a root's greater part. -/
theorem rootS_pos {f g : Nat} (hf : Ok f) (hg : Ok g) (ff : fin f = true) (gf : fin g = true) (h0 : 0 < max (rung f) (rung g)) : 0 < rootS f g ∧ rootS f g ≤ 9218868437227405312 := by
  have nf := fin_notN ff
  have ng := fin_notN gf
  have hfr := fin_rung ff
  have hgr := fin_rung gf
  obtain ⟨p, hp⟩ : ∃ p, p = max (rung f) (rung g) := ⟨_, rfl⟩
  have hpb := partE_bd p
  unfold rootS rootK sqF
  rw [(great_max nf ng).1, ← hp, clamp_in (by omega) (by omega), clamp_in (by omega) (by omega), fabs_of nf, scale_p hfr, scale_wd hg.lt gf]
  obtain ⟨s1, s2⟩ := scaled_half (p := p) (n := -2 * (partE p / 2)) (by omega) (by omega) (by omega)
  have e1' : rndE (mval (rung f)) (-2 * (partE p / 2)) ≤ rndE (mval p) (-2 * (partE p / 2)) := rndE_mono _ (mval_le_iff.2 (by omega))
  have e2' : rndE (mval (rung g)) (-2 * (partE p / 2)) ≤ rndE (mval p) (-2 * (partE p / 2)) := rndE_mono _ (mval_le_iff.2 (by omega))
  have e3 : p = rung f ∨ p = rung g := by omega
  have e4 : 4602678819172646912 ≤ rndE (mval (rung f)) (-2 * (partE p / 2)) ∨ 4602678819172646912 ≤ rndE (mval (rung g)) (-2 * (partE p / 2)) := by
    rcases e3 with e | e
    · left; rw [← e]; exact s1
    · right; rw [← e]; exact s1
  rw [mul_wd _ (by omega)]
  generalize rndE (mval (rung f)) (-2 * (partE p / 2)) = A at *
  generalize rndE (mval (rung g)) (-2 * (partE p / 2)) = b at *
  obtain ⟨q1, q2⟩ := rs_inner (A := A) (b := b) (by omega) (by omega) e4
  generalize fsqrt (fdiv (fadd A (fsqrt (fadd (fmul A A) (fmul b b)))) 4611686018427387904) = Q at *
  rw [scale_p (by omega)]
  refine ⟨?_, rndE_le _ _⟩
  unfold rndE
  apply le_rndQ_of (by decide)
  rw [show mval 1 = 1 by decide +kernel, Nat.one_mul]
  have m1 := Nat.le_trans rs_c7 (mval_le_iff.2 q1)
  have m2 : 2 ^ (-(partE p / 2)).toNat ≤ 2 ^ rsK := Nat.pow_le_pow_right (by decide) (by unfold rsK; omega)
  exact Nat.le_trans (Nat.le_trans m2 m1) (Nat.le_mul_of_pos_right _ (Nat.two_pow_pos _))
end Go.Proofs.Ytndknkdfbjfjcaa
