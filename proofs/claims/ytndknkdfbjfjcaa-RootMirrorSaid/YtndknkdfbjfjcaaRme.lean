/- Lengths: not above the sum of the parts. Plain. -/
import Derived.Test.YtndknkdfbjfjcaaRmd
namespace Go.Proofs.Ytndknkdfbjfjcaa
set_option linter.unusedVariables false
set_option linter.unusedSimpArgs false
set_option maxRecDepth 100000
theorem zz_small : mval (994 * 4503599627370496) = 16777216 * zz ∧ 32 * mval (965 * 4503599627370496) = zz := by
  have h := e1_eq
  obtain ⟨s, hs⟩ : ∃ s, s + 81 = e1 := ⟨e1 - 81, by omega⟩
  obtain ⟨t, ht⟩ : ∃ t, t + 110 = e1 := ⟨e1 - 110, by omega⟩
  have hs2 : s = 993 := by omega
  have ht2 : t = 964 := by omega
  have e := mval_stp (s := s) (q := 4503599627370496) (by omega) (by omega)
  have f := mval_stp (s := t) (q := 4503599627370496) (by omega) (by omega)
  have e2 : s * 4503599627370496 + 4503599627370496 = 994 * 4503599627370496 := by rw [hs2]
  have f2 : t * 4503599627370496 + 4503599627370496 = 965 * 4503599627370496 := by rw [ht2]
  rw [e2] at e
  rw [f2] at f
  rw [e, f]
  unfold zz
  constructor
  · rw [show e1 - 53 = s + 28 by omega, Nat.pow_add, show (2 : Nat) ^ 28 = 268435456 by decide, Nat.mul_comm (2 ^ s), ← Nat.mul_assoc]
  · rw [show e1 - 53 = t + 57 by omega, Nat.pow_add, show (2 : Nat) ^ 57 = 144115188075855872 by decide, Nat.mul_comm (2 ^ t), ← Nat.mul_assoc]
theorem zz_gap {a : Nat} (h : 4598175219545276416 ≤ a) : 2 * mval a + zz ≤ 2 * mval (a + 1) := by
  have h2 := e1_eq
  obtain ⟨s, hs⟩ : ∃ s, s + 54 = e1 := ⟨e1 - 54, by omega⟩
  have hs2 : s = 1020 := by omega
  have e := ulp_ge (r := a) (s := s) (by rw [hs2]; exact Nat.le_trans (by decide) h)
  unfold zz
  rw [show e1 - 53 = s + 1 by omega, Nat.pow_succ]
  generalize 2 ^ s = z at *
  omega
theorem zz_gapU {M : Nat} (hM1 : 4503599627370496 ≤ M) (hM2 : M < 9007199254740992) : M * zz + zz ≤ mval (1021 * 4503599627370496 + M + 1) := by
  have h2 := e1_eq
  obtain ⟨s, hs⟩ : ∃ s, s + 53 = e1 := ⟨e1 - 53, by omega⟩
  have hs2 : s = 1021 := by omega
  have e := ulp_ge (r := 1021 * 4503599627370496 + M) (s := s) (by rw [hs2]; omega)
  rw [zz_place hM1 hM2] at e
  unfold zz at *
  rw [show e1 - 53 = s by omega] at *
  exact e
theorem up_fin {M z ma : Nat} (hz : 0 < z) (hn : 4503599627370496 ≤ M) (h3 : (2 * ma) * (z * 9007199254740992) ≤ 2 * (M * z * (M * z)) + z * (z * 9007199254740992)) : 4 * (ma * (z * 9007199254740992)) < (M * z + (M * z + z)) * (M * z + (M * z + z)) := by
  have hW : 0 < z * z := Nat.mul_pos hz hz
  have e3 : M * z + (M * z + z) = (2 * M + 1) * z := by rw [← Nat.add_assoc, ← Nat.two_mul, Nat.add_mul, Nat.one_mul, Nat.mul_assoc]
  rw [e3, Nat.mul_mul_mul_comm]
  rw [Nat.mul_mul_mul_comm M z, Nat.mul_assoc 2 ma] at h3
  have hT : 9007199254740992 * (z * z) ≤ 2 * (M * (z * z)) := by
    rw [← Nat.mul_assoc 2]
    refine Nat.mul_le_mul_right _ ?_
    calc 9007199254740992 = 2 * 4503599627370496 := by decide
      _ ≤ 2 * M := Nat.mul_le_mul_left _ hn
  have e6 : z * (z * 9007199254740992) = 9007199254740992 * (z * z) := by rw [← Nat.mul_assoc, Nat.mul_comm]
  rw [e6] at h3
  clear e3 hn e6
  generalize ma * (z * 9007199254740992) = P at h3 ⊢
  generalize z * z = W at h3 hT hW ⊢
  have e5 : (2 * M + 1) * (2 * M + 1) * W = 4 * (M * M * W) + 4 * (M * W) + W := by
    rw [sq_add, Nat.mul_one, Nat.mul_one, Nat.add_mul, Nat.add_mul, Nat.one_mul, Nat.mul_mul_mul_comm, ← Nat.mul_assoc 2 2 M, Nat.mul_assoc (2 * 2), Nat.mul_assoc (2 * 2)]
  rw [e5]
  generalize 9007199254740992 * W = D at *
  generalize M * M * W = S at *
  generalize M * W = T at *
  omega
theorem sm_sq {R z : Nat} (h : 32 * R = z) : 16777216 * z * (16777216 * z) = R * (z * 9007199254740992) := by
  rw [Nat.mul_mul_mul_comm]
  calc 16777216 * 16777216 * (z * z) = 281474976710656 * (32 * R * z) := by rw [h]
    _ = 9007199254740992 * (R * z) := by rw [Nat.mul_assoc 32, ← Nat.mul_assoc]
    _ = R * (z * 9007199254740992) := by rw [Nat.mul_comm, Nat.mul_assoc]
/-- where the lesser part is far below: the length is the greater one. -/
theorem len_far {p y M a : Nat} (hp0 : 0 < p) (hp : p < 9218868437227405312) (hM1 : 4503599627370496 ≤ M) (hM2 : M < 9007199254740992)
    (hx : mval p * 2 ^ (-(partE p)).toNat = M * zz * 2 ^ (partE p).toNat)
    (ha : rndQ (M * zz * (M * zz)) e1 = a) (hfar : mval y * 536870912 ≤ mval p) :
    rndE (mval (fsqrt (rndN (mval a + mval (rndQ (mval (rndE (mval y) (-(partE p))) * mval (rndE (mval y) (-(partE p)))) e1))))) (partE p) ≤ p := by
  obtain ⟨a1, a2, _⟩ := sq_fact hM1 hM2 ha
  have hz := zz_pos
  have hU : 2 ^ e1 = zz * 9007199254740992 := by have := U_zz; unfold U at this; exact this
  have hPp := Nat.two_pow_pos (partE p).toNat
  have hv : rndE (mval y) (-(partE p)) ≤ 994 * 4503599627370496 := by
    unfold rndE
    apply rndQ_le_of (by decide)
    rw [zz_small.1, Int.neg_neg]
    have h1 := Nat.mul_le_mul_right (2 ^ (-(partE p)).toNat) hfar
    rw [hx] at h1
    have h2 : M * zz * 2 ^ (partE p).toNat ≤ 9007199254740992 * zz * 2 ^ (partE p).toNat := Nat.mul_le_mul_right _ (Nat.mul_le_mul_right _ (Nat.le_of_lt hM2))
    have h3 := Nat.le_trans h1 h2
    have e1' : mval y * 536870912 * 2 ^ (-(partE p)).toNat = (mval y * 2 ^ (-(partE p)).toNat) * 536870912 := Nat.mul_right_comm _ _ _
    have e2' : 9007199254740992 * zz * 2 ^ (partE p).toNat = (16777216 * zz * 2 ^ (partE p).toNat) * 536870912 := by
      generalize 2 ^ (partE p).toNat = P
      rw [Nat.mul_assoc 16777216, Nat.mul_comm 16777216, Nat.mul_assoc (zz * P), show 16777216 * 536870912 = 9007199254740992 by decide, Nat.mul_assoc, Nat.mul_comm 9007199254740992]
    rw [e1', e2'] at h3
    exact Nat.le_of_mul_le_mul_right h3 (by decide)
  have hvm := mval_le_iff.2 hv
  rw [zz_small.1] at hvm
  generalize rndE (mval y) (-(partE p)) = v at hvm
  have hb : rndQ (mval v * mval v) e1 ≤ 965 * 4503599627370496 := by
    apply rndQ_le_of (by decide)
    have h1 : mval v * mval v ≤ 16777216 * zz * (16777216 * zz) := sq_le hvm
    refine Nat.le_trans h1 ?_
    have h2 := zz_small.2
    have h3 := sm_sq h2
    rw [hU, h3]
    exact Nat.le_refl _
  have hbm := mval_le_iff.2 hb
  generalize rndQ (mval v * mval v) e1 = b at hbm
  have hb32 : 32 * mval b ≤ zz := by
    have h2 := zz_small.2
    rw [← h2]
    exact Nat.mul_le_mul_left _ hbm
  have two : mval 4611686018427387904 = 2 * mval 4607182418800017408 := by
    have := mval_dbl 4607182418800017408
    rwa [show dbl 4607182418800017408 = 4611686018427387904 by decide] at this
  have m1 := mval_lt a1
  have m4 : mval b ≤ mval a := by
    have q1 := mval_le_iff.2 a2
    rw [zz_quarter] at q1
    generalize mval a = x at *
    generalize mval b = y' at *
    generalize zz = z at *
    omega
  have s1 : a ≤ rndN (mval a + mval b) := le_rndN_of (by omega) (Nat.le_add_right _ _)
  have s2 : rndN (mval a + mval b) ≤ 4611686018427387904 := rndN_le_of (by decide) (by rw [two]; omega)
  obtain ⟨s3, hs3⟩ : ∃ s, rndN (mval a + mval b) = s := ⟨_, rfl⟩
  rw [hs3] at s1 s2 ⊢
  have g1 := zz_gap a2
  have s4 : s3 ≤ a := by
    rcases Nat.lt_or_ge a s3 with h | h
    · exfalso
      have r1 := rnd_above (m := mval a + mval b) (d := 0) (r := s3) hs3 (by omega) (by omega)
      have r2 := mval_le_iff.2 (show a ≤ s3 - 1 by omega)
      have r3 := mval_le_iff.2 (show a + 1 ≤ s3 by omega)
      rw [Nat.pow_zero, Nat.mul_one] at r1
      generalize mval (s3 - 1) = x1 at *
      generalize mval s3 = x2 at *
      generalize mval (a + 1) = x3 at *
      generalize mval a = x4 at *
      generalize mval b = x5 at *
      generalize zz = z at *
      clear hU ha hs3
      omega
    · exact h
  have s5 : s3 = a := Nat.le_antisymm s4 s1
  rw [s5]
  have hu2 := zz_place hM1 hM2
  have k1 : fsqrt a ≤ 1021 * 4503599627370496 + M := by
    apply sqrt_hi (by omega) (by omega)
    have q1 := rnd_above ha (by omega) (by omega)
    have q2 := zz_ulp (r := a - 1) (by omega)
    rw [show a - 1 + 1 = a by omega] at q2
    have q3 : 2 * mval a ≤ mval (a - 1) + mval a + zz := by
      generalize mval a = x at *
      generalize mval (a - 1) = y' at *
      omega
    have q4 := Nat.mul_le_mul_right (2 ^ e1) q3
    rw [Nat.add_mul] at q4
    have q5 := Nat.le_trans q4 (Nat.add_le_add_right q1 (zz * 2 ^ e1))
    rw [hU] at q5
    have q6 := up_fin hz hM1 q5
    rw [U_zz, hu2]
    exact Nat.lt_of_lt_of_le q6 (sq_le (Nat.add_le_add_left (zz_gapU hM1 hM2) _))
  have k2 := rndE_mono (partE p) (mval_le_iff.2 k1)
  rw [hu2] at k2
  refine Nat.le_trans k2 ?_
  unfold rndE
  rw [← hx, rndQ_cancel, rnd_mval hp]
  exact Nat.le_refl _
end Go.Proofs.Ytndknkdfbjfjcaa
