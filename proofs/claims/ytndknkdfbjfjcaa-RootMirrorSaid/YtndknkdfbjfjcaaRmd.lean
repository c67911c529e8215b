/- Lengths: not below the greater part. Plain. -/
import Derived.Test.YtndknkdfbjfjcaaRmc
namespace Go.Proofs.Ytndknkdfbjfjcaa
set_option linter.unusedVariables false
set_option linter.unusedSimpArgs false
set_option maxRecDepth 100000
theorem rndQ_le_of {m d r : Nat} (hr : r < 9218868437227405312) (h : m ≤ mval r * 2 ^ d) : rndQ m d ≤ r := by
  have := rndQ_mono (d := d) h
  rwa [rndQ_cancel, rnd_mval hr] at this
theorem le_rndQ_of {m d r : Nat} (hr : r < 9218868437227405312) (h : mval r * 2 ^ d ≤ m) : r ≤ rndQ m d := by
  have := rndQ_mono (d := d) h
  rwa [rndQ_cancel, rnd_mval hr] at this
theorem rndE_mono {m n : Nat} (t : Int) (h : m ≤ n) : rndE m t ≤ rndE n t := rndQ_mono (Nat.mul_le_mul_right _ h)
theorem U_zz : U = zz * 9007199254740992 := by
  have h := e1_eq
  unfold zz
  rw [show (9007199254740992 : Nat) = 2 ^ 53 by decide, ← Nat.pow_add, show e1 - 53 + 53 = e1 by omega]
  unfold U; rfl
theorem zz_place {q : Nat} (h1 : 4503599627370496 ≤ q) (h2 : q < 9007199254740992) : mval (1021 * 4503599627370496 + q) = q * zz := by
  have h := e1_eq
  have e := mval_stp (s := e1 - 53) h1 h2
  rw [show e1 - 53 = 1021 by omega] at e
  rw [e]; unfold zz; rw [show e1 - 53 = 1021 by omega]
theorem zz_one : mval 4607182418800017408 = 9007199254740992 * zz := by
  have h := e1_eq
  obtain ⟨s, hs⟩ : ∃ s, s + 53 = e1 := ⟨e1 - 53, by omega⟩
  have hs2 : s = 1021 := by omega
  have e := mval_stp (s := s + 1) (q := 4503599627370496) (by omega) (by omega)
  have e2 : (s + 1) * 4503599627370496 + 4503599627370496 = 4607182418800017408 := by rw [hs2]
  rw [e2, Nat.pow_succ] at e
  rw [e]
  unfold zz
  rw [show e1 - 53 = s by omega, Nat.mul_comm (2 ^ s) 2, ← Nat.mul_assoc]
theorem zz_quarter : mval 4598175219545276416 = 2251799813685248 * zz := by
  have h := e1_eq
  obtain ⟨s, hs⟩ : ∃ s, s + 54 = e1 := ⟨e1 - 54, by omega⟩
  have hs2 : s = 1020 := by omega
  have e := mval_stp (s := s) (q := 4503599627370496) (by omega) (by omega)
  have e2 : s * 4503599627370496 + 4503599627370496 = 4598175219545276416 := by rw [hs2]
  rw [e2] at e
  rw [e]
  unfold zz
  rw [show e1 - 53 = s + 1 by omega, Nat.pow_succ, Nat.mul_comm (2 ^ s) 2, ← Nat.mul_assoc]
theorem zz_ulp {r : Nat} (h : r < 4607182418800017408) : mval (r + 1) ≤ mval r + zz := by
  have h2 := e1_eq
  have h3 : e1 - 53 + 2 = 1023 := by omega
  exact ulp_le (s := e1 - 53) (by rw [h3]; exact Nat.lt_of_lt_of_le h (by decide))
theorem low_key {n Z P W c T S : Nat} (hT : c * W ≤ 2 * T) (hW : 0 < W) (h : 2 * S + 4 * T + 2 * W ≤ 2 * P + c * W) : 4 * S + 4 * T + W < 4 * P := by
  generalize c * W = D at *
  omega
theorem sq_add (x y : Nat) : (x + y) * (x + y) = x * x + 2 * (x * y) + y * y := by
  rw [Nat.add_mul, Nat.mul_add, Nat.mul_add, Nat.mul_comm y x]; omega
theorem low_fin {n z ma : Nat} (hz : 0 < z) (hn : 4503599627370496 ≤ n) (h3 : 2 * ((n + 1) * (n + 1) * (z * z)) ≤ (ma + (ma + z)) * (z * 9007199254740992)) : (n * z + (n + 1) * z) * (n * z + (n + 1) * z) < 4 * (ma * (z * 9007199254740992)) := by
  have hW : 0 < z * z := Nat.mul_pos hz hz
  have e2 : (ma + (ma + z)) * (z * 9007199254740992) = 2 * (ma * (z * 9007199254740992)) + 9007199254740992 * (z * z) := by
    rw [← Nat.add_assoc, Nat.add_mul, ← Nat.two_mul, Nat.mul_assoc 2, ← Nat.mul_assoc z z, Nat.mul_comm (z * z)]
  rw [e2] at h3
  have e3 : n * z + (n + 1) * z = (2 * n + 1) * z := by rw [← Nat.add_mul, ← Nat.add_assoc, ← Nat.two_mul]
  rw [e3, Nat.mul_mul_mul_comm]
  have hT : 9007199254740992 * (z * z) ≤ 2 * (n * (z * z)) := by
    rw [← Nat.mul_assoc 2]
    refine Nat.mul_le_mul_right _ ?_
    calc 9007199254740992 = 2 * 4503599627370496 := by decide
      _ ≤ 2 * n := Nat.mul_le_mul_left _ hn
  clear e2 e3 hn
  generalize ma * (z * 9007199254740992) = P at h3 ⊢
  generalize z * z = W at h3 hT hW ⊢
  have e4 : (n + 1) * (n + 1) * W = n * n * W + 2 * (n * W) + W := by
    rw [sq_add, Nat.mul_one, Nat.mul_one, Nat.add_mul, Nat.add_mul, Nat.one_mul, Nat.mul_assoc 2]
  have e5 : (2 * n + 1) * (2 * n + 1) * W = 4 * (n * n * W) + 4 * (n * W) + W := by
    rw [sq_add, Nat.mul_one, Nat.mul_one, Nat.add_mul, Nat.add_mul, Nat.one_mul, Nat.mul_mul_mul_comm, ← Nat.mul_assoc 2 2 n, Nat.mul_assoc (2 * 2), Nat.mul_assoc (2 * 2)]
  rw [e5]
  rw [e4] at h3
  exact low_key (n := 0) (Z := 0) (c := 9007199254740992) hT hW (by rw [Nat.mul_add, Nat.mul_add, ← Nat.mul_assoc 2 2] at h3; exact h3)
theorem quarter_sq (z : Nat) : 2 * (4503599627370496 * z) * (2 * (4503599627370496 * z)) = 4 * (2251799813685248 * z * (z * 9007199254740992)) := by
  rw [Nat.mul_comm z 9007199254740992, Nat.mul_mul_mul_comm 2251799813685248, Nat.mul_mul_mul_comm 2, Nat.mul_mul_mul_comm 4503599627370496]
/-- the square of what was brought near to one. -/
theorem sq_fact {M a : Nat} (hM1 : 4503599627370496 ≤ M) (hM2 : M < 9007199254740992) (ha : rndQ (M * zz * (M * zz)) e1 = a) :
    a < 4607182418800017408 ∧ 4598175219545276416 ≤ a ∧ (mval (1021 * 4503599627370496 + M - 1) + M * zz) * (mval (1021 * 4503599627370496 + M - 1) + M * zz) < 4 * (mval a * U) := by
  have hz := zz_pos
  have hU : 2 ^ e1 = zz * 9007199254740992 := by have := U_zz; unfold U at this; exact this
  have hW : 0 < zz * zz := Nat.mul_pos hz hz
  have hmm : M * zz * (M * zz) = M * M * (zz * zz) := Nat.mul_mul_mul_comm _ _ _ _
  have b1 : a ≤ 4607182418800017408 := by
    rw [← ha]
    apply rndQ_le_of (by decide)
    rw [zz_one, hU, hmm, show 9007199254740992 * zz * (zz * 9007199254740992) = 9007199254740992 * 9007199254740992 * (zz * zz) by rw [Nat.mul_comm zz 9007199254740992, Nat.mul_mul_mul_comm]]
    exact Nat.mul_le_mul_right _ (Nat.mul_le_mul (Nat.le_of_lt hM2) (Nat.le_of_lt hM2))
  have b2 : 4598175219545276416 ≤ a := by
    rw [← ha]
    apply le_rndQ_of (by decide)
    rw [zz_quarter, hU, hmm, show 2251799813685248 * zz * (zz * 9007199254740992) = 4503599627370496 * 4503599627370496 * (zz * zz) by rw [Nat.mul_comm zz 9007199254740992, Nat.mul_mul_mul_comm]]
    exact Nat.mul_le_mul_right _ (Nat.mul_le_mul hM1 hM1)
  have b3 : a ≠ 4607182418800017408 := by
    intro e
    have h1 := rnd_above ha (by omega) (by omega)
    rw [e, zz_one, hU, hmm, show 4607182418800017408 - 1 = 1021 * 4503599627370496 + 9007199254740991 by decide, zz_place (by decide) (by decide), ← Nat.add_mul, Nat.mul_comm zz 9007199254740992, Nat.mul_mul_mul_comm, ← Nat.mul_assoc 2] at h1
    have h2 := Nat.le_of_mul_le_mul_right h1 hW
    have h3 : M * M ≤ 9007199254740991 * 9007199254740991 := Nat.mul_le_mul (by omega) (by omega)
    have h4 : 2 * (M * M) ≤ 2 * (9007199254740991 * 9007199254740991) := Nat.mul_le_mul_left _ h3
    exact absurd (Nat.le_trans h2 h4) (by decide)
  have b4 : a < 4607182418800017408 := by omega
  refine ⟨b4, b2, ?_⟩
  by_cases hM : M = 4503599627370496
  · have k0 := zz_place hM1 hM2
    have k1 : mval (1021 * 4503599627370496 + M - 1) < mval (1021 * 4503599627370496 + M) := mval_lt (by omega)
    rw [k0] at k1
    have k2 : mval (1021 * 4503599627370496 + M - 1) + M * zz < 2 * (M * zz) := by omega
    have k3 : (mval (1021 * 4503599627370496 + M - 1) + M * zz) * (mval (1021 * 4503599627370496 + M - 1) + M * zz) < 2 * (M * zz) * (2 * (M * zz)) := Nat.mul_lt_mul_of_lt_of_lt k2 k2
    refine Nat.lt_of_lt_of_le k3 ?_
    have k4 : mval 4598175219545276416 ≤ mval a := mval_le_iff.2 b2
    rw [zz_quarter] at k4
    have k5 := quarter_sq zz
    rw [← U_zz] at k5
    rw [hM, k5]
    exact Nat.mul_le_mul_left _ (Nat.mul_le_mul_right _ k4)
  · obtain ⟨n, rfl⟩ : ∃ n, M = n + 1 := ⟨M - 1, by omega⟩
    have k1 := zz_place (q := n) (by omega) (by omega)
    rw [show 1021 * 4503599627370496 + (n + 1) - 1 = 1021 * 4503599627370496 + n by omega, k1]
    have h1 := rnd_below ha (by omega)
    have h2 := zz_ulp b4
    have h3 := Nat.le_trans h1 (Nat.mul_le_mul_right _ (Nat.add_le_add_left h2 (mval a)))
    rw [hmm, hU] at h3
    rw [U_zz]
    exact low_fin hz (by omega) h3
/-- LENGTHS: the parts. p the greater one, y the lesser one, by their bits. -/
theorem len_low {p M a b : Nat} (hp0 : 0 < p) (hp : p < 9218868437227405312) (hM1 : 4503599627370496 ≤ M) (hM2 : M < 9007199254740992)
    (hu : rndE (mval p) (-(partE p)) = 1021 * 4503599627370496 + M) (hx : mval p * 2 ^ (-(partE p)).toNat = M * zz * 2 ^ (partE p).toNat)
    (ha : rndQ (M * zz * (M * zz)) e1 = a) (hb : b ≤ a) : p ≤ rndE (mval (fsqrt (rndN (mval a + mval b)))) (partE p) := by
  obtain ⟨a1, a2, a3⟩ := sq_fact hM1 hM2 ha
  have hz := zz_pos
  have two : mval 4611686018427387904 = 2 * mval 4607182418800017408 := by
    have := mval_dbl 4607182418800017408
    rwa [show dbl 4607182418800017408 = 4611686018427387904 by decide] at this
  have s1 : a ≤ rndN (mval a + mval b) := le_rndN_of (by omega) (Nat.le_add_right _ _)
  have m1 := mval_lt a1
  have m2 := mval_le_iff.2 hb
  have s2 : rndN (mval a + mval b) ≤ 4611686018427387904 := rndN_le_of (by decide) (by rw [two]; omega)
  generalize rndN (mval a + mval b) = s3 at s1 s2
  have m3 := mval_le_iff.2 s1
  have hu2 := zz_place hM1 hM2
  have k1 : 1021 * 4503599627370496 + M ≤ fsqrt s3 := by
    apply sqrt_lo (by omega) (by omega) (by omega) (by omega)
    rw [hu2]
    exact Nat.lt_of_lt_of_le a3 (Nat.mul_le_mul_left _ (Nat.mul_le_mul_right _ m3))
  have k2 := rndE_mono (partE p) (mval_le_iff.2 k1)
  rw [hu2] at k2
  refine Nat.le_trans ?_ k2
  -- back up exactly
  unfold rndE
  rw [← hx]
  apply le_rndQ_of hp
  exact Nat.le_refl _
end Go.Proofs.Ytndknkdfbjfjcaa
