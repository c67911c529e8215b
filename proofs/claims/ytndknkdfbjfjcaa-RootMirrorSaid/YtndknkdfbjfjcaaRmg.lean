/- Lengths lie between the greater part and the sum. Plain. -/
import Derived.Test.YtndknkdfbjfjcaaRmf
namespace Go.Proofs.Ytndknkdfbjfjcaa
set_option linter.unusedVariables false
set_option linter.unusedSimpArgs false
set_option maxRecDepth 100000
theorem zz_big : 576460752303423488 ≤ zz := by
  have h := e1_eq
  unfold zz
  rw [show (576460752303423488 : Nat) = 2 ^ 59 by decide]
  exact Nat.pow_le_pow_right (by decide) (by omega)
theorem zz_993 : mval (993 * 4503599627370496) = 8388608 * zz := by
  have h := e1_eq
  obtain ⟨s, hs⟩ : ∃ s, s + 82 = e1 := ⟨e1 - 82, by omega⟩
  have hs2 : s = 992 := by omega
  have e := mval_stp (s := s) (q := 4503599627370496) (by omega) (by omega)
  have e2 : s * 4503599627370496 + 4503599627370496 = 993 * 4503599627370496 := by rw [hs2]
  rw [e2] at e
  rw [e]
  unfold zz
  rw [show e1 - 53 = s + 29 by omega, Nat.pow_add, show (2 : Nat) ^ 29 = 536870912 by decide, Nat.mul_comm (2 ^ s), ← Nat.mul_assoc]
theorem mval_52 : mval 4503599627370496 = 4503599627370496 := by decide +kernel
theorem two_one : mval 4611686018427387904 = 2 * mval 4607182418800017408 := by
  have := mval_dbl 4607182418800017408
  rwa [show dbl 4607182418800017408 = 4611686018427387904 by decide] at this
/-- the sum of the squares and its root. -/
theorem sum_root {M a b : Nat} (hM1 : 4503599627370496 ≤ M) (hM2 : M < 9007199254740992) (ha : rndQ (M * zz * (M * zz)) e1 = a) (hb : b ≤ a) :
    a ≤ rndN (mval a + mval b) ∧ rndN (mval a + mval b) ≤ 4611686018427387904 ∧ 1021 * 4503599627370496 + M ≤ fsqrt (rndN (mval a + mval b)) := by
  obtain ⟨a1, a2, a3⟩ := sq_fact hM1 hM2 ha
  have s1 : a ≤ rndN (mval a + mval b) := le_rndN_of (by omega) (Nat.le_add_right _ _)
  have m1 := mval_lt a1
  have m2 := mval_le_iff.2 hb
  have s2 : rndN (mval a + mval b) ≤ 4611686018427387904 := rndN_le_of (by decide) (by rw [two_one]; omega)
  refine ⟨s1, s2, ?_⟩
  generalize rndN (mval a + mval b) = s3 at s1 s2
  have m3 := mval_le_iff.2 s1
  apply sqrt_lo (by omega) (by omega) (by omega) (by omega)
  rw [zz_place hM1 hM2]
  exact Nat.lt_of_lt_of_le a3 (Nat.mul_le_mul_left _ (Nat.mul_le_mul_right _ m3))
/-- where the parts are not far from each other. -/
theorem len_close {p y M a b v : Nat} (hp0 : 0 < p) (hp : p < 9218868437227405312) (hyp : y ≤ p) (hM1 : 4503599627370496 ≤ M) (hM2 : M < 9007199254740992)
    (hu : rndE (mval p) (-(partE p)) = 1021 * 4503599627370496 + M) (hx : mval p * 2 ^ (-(partE p)).toNat = M * zz * 2 ^ (partE p).toNat)
    (ha : rndQ (M * zz * (M * zz)) e1 = a) (hv : rndE (mval y) (-(partE p)) = v) (hb : rndQ (mval v * mval v) e1 = b) (hnear : mval p ≤ mval y * 536870912) :
    rndE (mval (fsqrt (rndN (mval a + mval b)))) (partE p) ≤ rndN (mval p + mval y) := by
  obtain ⟨a1, a2, a3⟩ := sq_fact hM1 hM2 ha
  have hz := zz_pos
  have hzb := zz_big
  have hU : 2 ^ e1 = zz * 9007199254740992 := by have := U_zz; unfold U at this; exact this
  have hPp := Nat.two_pow_pos (partE p).toNat
  have hy2 := mval_le_iff.2 hyp
  -- the lesser part brought near to one
  have v1 : v ≤ 1021 * 4503599627370496 + M := by rw [← hv, ← hu]; exact rndE_mono _ hy2
  have hv' : rndQ (mval y * 2 ^ (-(partE p)).toNat) (partE p).toNat = v := by
    rw [← hv]; unfold rndE; rw [Int.neg_neg]
  have hnear2 := Nat.mul_le_mul_right (2 ^ (-(partE p)).toNat) hnear
  rw [hx] at hnear2
  have v2 : 993 * 4503599627370496 ≤ v := by
    rw [← hv']
    apply le_rndQ_of (by decide)
    rw [zz_993]
    have q1 : 4503599627370496 * zz * 2 ^ (partE p).toNat ≤ M * zz * 2 ^ (partE p).toNat := Nat.mul_le_mul_right _ (Nat.mul_le_mul_right _ hM1)
    have q2 := Nat.le_trans q1 hnear2
    have q3 : mval y * 536870912 * 2 ^ (-(partE p)).toNat = (mval y * 2 ^ (-(partE p)).toNat) * 536870912 := Nat.mul_right_comm _ _ _
    have q4 : 4503599627370496 * zz * 2 ^ (partE p).toNat = (8388608 * zz * 2 ^ (partE p).toNat) * 536870912 := by
      generalize 2 ^ (partE p).toNat = P
      rw [Nat.mul_assoc 8388608, Nat.mul_comm 8388608, Nat.mul_assoc (zz * P), show 8388608 * 536870912 = 4503599627370496 by decide, Nat.mul_assoc, Nat.mul_comm 4503599627370496]
    rw [q3, q4] at q2
    exact Nat.le_of_mul_le_mul_right q2 (by decide)
  have h5 := rnd_rel hv' (by omega) (by omega)
  -- its square
  have b1 : b ≤ a := by
    rw [← hb, ← ha, ← zz_place hM1 hM2]
    exact rndQ_mono (sq_le (mval_le_iff.2 v1))
  have b2 : 4503599627370496 ≤ b := by
    rw [← hb]
    apply le_rndQ_of (by decide)
    have q1 := mval_le_iff.2 v2
    rw [zz_993] at q1
    have q2 := sq_le q1
    rw [mval_52, hU]
    refine Nat.le_trans ?_ q2
    generalize zz = z at *
    calc 4503599627370496 * (z * 9007199254740992) = (70368744177664 * 576460752303423488) * z := by rw [Nat.mul_left_comm, Nat.mul_comm]
      _ ≤ (70368744177664 * z) * z := Nat.mul_le_mul_right _ (Nat.mul_le_mul_left _ hzb)
      _ = 8388608 * z * (8388608 * z) := by rw [Nat.mul_mul_mul_comm, Nat.mul_assoc]
  have h4 := rnd_rel hb b2 (by omega)
  have h3 := rnd_rel ha (by omega) (by omega)
  -- the sum and its root
  obtain ⟨s1, s2, s3⟩ := sum_root hM1 hM2 ha b1
  obtain ⟨t, ht⟩ : ∃ t, rndN (mval a + mval b) = t := ⟨_, rfl⟩
  have h2 := rnd_rel (m := mval a + mval b) (d := 0) (r := t) ht (by rw [ht] at s1; omega) (by rw [ht] at s2; omega)
  rw [ht] at s1 s2 s3 ⊢
  rw [Nat.pow_zero, Nat.mul_one] at h2
  have h1 := sqrt_rel (r := t) (by omega) (by omega) (by omega)
  have e : U = 2 ^ e1 := by unfold U; rfl
  rw [e] at h1
  have key := chain h1 h2 h3 h4 h5 hx.symm (Nat.mul_le_mul_right _ hy2) (by rw [Nat.mul_right_comm, hx]; exact hnear2)
  rw [← Nat.add_mul] at key
  unfold rndE
  have q := rndQ_mono (d := (-(partE p)).toNat) key
  rw [rndQ_cancel] at q
  exact q
/-- THE LENGTH of the parts p, y (p the greater one): between p and the sum. -/
theorem len_between {p y : Nat} (hp0 : 0 < p) (hp : p < 9218868437227405312) (hyp : y ≤ p) :
    p ≤ rndE (mval (fsqrt (rndN (mval (rndQ (mval (rndE (mval p) (-(partE p))) * mval (rndE (mval p) (-(partE p)))) e1) + mval (rndQ (mval (rndE (mval y) (-(partE p))) * mval (rndE (mval y) (-(partE p)))) e1))))) (partE p) ∧
    rndE (mval (fsqrt (rndN (mval (rndQ (mval (rndE (mval p) (-(partE p))) * mval (rndE (mval p) (-(partE p)))) e1) + mval (rndQ (mval (rndE (mval y) (-(partE p))) * mval (rndE (mval y) (-(partE p)))) e1))))) (partE p) ≤ rndN (mval p + mval y) := by
  obtain ⟨M, hM1, hM2, hu, hx, _, _⟩ := scaled_great hp0 hp
  have hu2 := zz_place hM1 hM2
  rw [hu, hu2]
  obtain ⟨a, ha⟩ : ∃ a, rndQ (M * zz * (M * zz)) e1 = a := ⟨_, rfl⟩
  obtain ⟨v, hv⟩ : ∃ v, rndE (mval y) (-(partE p)) = v := ⟨_, rfl⟩
  obtain ⟨b, hb⟩ : ∃ b, rndQ (mval v * mval v) e1 = b := ⟨_, rfl⟩
  have v1 : v ≤ 1021 * 4503599627370496 + M := by rw [← hv, ← hu]; exact rndE_mono _ (mval_le_iff.2 hyp)
  have b1 : b ≤ a := by
    rw [← hb, ← ha, ← hu2]
    exact rndQ_mono (sq_le (mval_le_iff.2 v1))
  rw [ha, hv, hb]
  refine ⟨len_low hp0 hp hM1 hM2 hu hx ha b1, ?_⟩
  rcases Nat.lt_or_ge (mval y * 536870912) (mval p) with h | h
  · have h2 := len_far hp0 hp hM1 hM2 hx ha (Nat.le_of_lt h)
    rw [hv, hb] at h2
    exact Nat.le_trans h2 (le_rndN_of hp (Nat.le_add_right _ _))
  · exact len_close hp0 hp hyp hM1 hM2 hu hx ha hv hb h
end Go.Proofs.Ytndknkdfbjfjcaa
