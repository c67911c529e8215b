/- Bounds of quotients. -/
import Derived.Test.YtcfkhhnkboealaaBd
namespace Go.Proofs.Ytcfkhhnkboealaa
open Go.RowKit
set_option linter.unusedVariables false
set_option linter.unusedSimpArgs false
set_option maxRecDepth 100000

theorem aux1 {m A B Q R : Nat} (hQ : Q ≤ R) (h : m < A) (k : A * R ≤ B) : m * Q ≤ B :=
  Nat.le_trans (Nat.mul_le_mul (Nat.le_of_lt h) hQ) k
theorem aux2 {A B C D E m : Nat} (h1 : E + D = A) (h2 : B ≤ 1 * m) (h3 : C = 2 * E) : C + B ≤ 2 * A + m := by omega
theorem aux3 {A B m Q : Nat} (h1 : A ≤ 2 * B + m) (h2 : m * Q ≤ B) : A * Q ≤ 2 * B * (Q + 1) := by
  have a := Nat.mul_le_mul_right Q h1
  rw [Nat.add_mul] at a
  rw [Nat.mul_add, Nat.mul_one]
  omega
theorem nearest_any (neg : Bool) (m a b : Nat) (p : Int) (hp : p = -1074 + (a : Int) - (b : Int)) : Ieee.double.nearest neg m p = Ieee.double.word neg (rndQ (m * 2 ^ a) b) := by
  subst hp
  by_cases h : b ≤ a
  · rw [show -1074 + (a : Int) - (b : Int) = -1074 + ((a - b : Nat) : Int) by omega, nearest_int]
    congr 1
    have := rndQ_scale (m * 2 ^ (a - b)) 0 b
    rw [Nat.zero_add, Nat.mul_assoc, ← Nat.pow_add, Nat.sub_add_cancel h] at this
    exact this.symm
  · rw [show -1074 + (a : Int) - (b : Int) = -1074 - ((b - a : Nat) : Int) by omega, nearest_frac]
    congr 1
    have := rndQ_scale m (b - a) a
    rw [Nat.sub_add_cancel (by omega)] at this
    exact this.symm
theorem fdiv_fin {f g : Nat} (hf : Proofs.Ytcfkhhnkboealaa.fin f = true) (hg : Proofs.Ytcfkhhnkboealaa.fin g = true) (h0 : rung g ≠ 0) :
    ∃ m1 k1 m2 k2 s n, mval (rung f) = m1 * 2 ^ k1 ∧ mval (rung g) = m2 * 2 ^ k2 ∧ 0 < m2 ∧ n = 2 * (m1 * 2 ^ s / m2) + (m1 * 2 ^ s % m2 != 0).toNat ∧ (m1 ≠ 0 → m2 * 1048576 ≤ m1 * 2 ^ s) ∧
      fdiv f g = wd (sgn f ^^ sgn g) (rndQ (n * 2 ^ (e1 + k1)) (k2 + s + 1)) := by
  obtain ⟨m1, k1, hr1, hm1, hb1, hk1⟩ := read_number (fin_rung hf)
  obtain ⟨m2, k2, hr2, hm2, hb2, hk2⟩ := read_number (fin_rung hg)
  have h2 : m2 ≠ 0 := by
    intro h; rw [h, Nat.zero_mul] at hm2; have := mval_pos (show 0 < rung g by omega); omega
  have hl1 : m1.log2 ≤ 52 := by
    by_cases h : m1 = 0
    · subst h; decide
    · have := (Nat.log2_lt h (k := 53)).2 (by omega); omega
  refine ⟨m1, k1, m2, k2, 54 + m2.log2 - m1.log2, _, hm1, hm2, by omega, rfl, ?_, ?_⟩
  · intro h1
    have a1 := Nat.log2_self_le h1
    have a2 : m2 < 2 ^ (m2.log2 + 1) := Nat.lt_log2_self
    have a3 : 2 ^ m1.log2 * 2 ^ (54 + m2.log2 - m1.log2) = 2 ^ (m2.log2 + 1) * 9007199254740992 := by
      rw [← Nat.pow_add, show m1.log2 + (54 + m2.log2 - m1.log2) = m2.log2 + 1 + 53 by omega, Nat.pow_add]
    have a4 : 2 ^ m1.log2 * 2 ^ (54 + m2.log2 - m1.log2) ≤ m1 * 2 ^ (54 + m2.log2 - m1.log2) := Nat.mul_le_mul_right _ a1
    rw [a3] at a4
    exact aux1 (by decide) a2 a4
  · rw [div_def, hr1, hr2]
    have hfb : Ieee.double.fractionBits + 2 = 54 := rfl
    rw [hfb]
    simp only [Ieee.Datum.quotient]
    rw [if_neg (by simpa using h2)]
    simp only [Option.map_some, canon]
    rw [Nat.shiftLeft_eq]
    show Ieee.double.nearest _ _ _ = _
    rw [nearest_any _ _ (e1 + k1) (k2 + (54 + m2.log2 - m1.log2) + 1) _ (by rw [e1_eq]; omega), word_eq]
theorem fdiv_le {f g c : Nat} (hf : Proofs.Ytcfkhhnkboealaa.fin f = true) (hg : Proofs.Ytcfkhhnkboealaa.fin g = true) (h0 : rung g ≠ 0) (hc : c < 9218868437227405312)
    (h : mval (rung f) * U * 1048577 ≤ mval c * mval (rung g) * 1048576) : ∃ r, fdiv f g = wd (sgn f ^^ sgn g) r ∧ r ≤ c := by
  obtain ⟨m1, k1, m2, k2, s, n, e1', e2, hp, hn, hs, he⟩ := fdiv_fin hf hg h0
  refine ⟨_, he, ?_⟩
  by_cases hz : m1 = 0
  · subst hz
    have : n = 0 := by rw [hn]; simp
    rw [this, Nat.zero_mul]
    unfold rndQ; simp
  have hs := hs hz
  have h1 : rndQ (mval c * 2 ^ (k2 + s + 1)) (k2 + s + 1) = c := by rw [rndQ_cancel, rnd_mval hc]
  refine Nat.le_trans (rndQ_mono ?_) (Nat.le_of_eq h1)
  have hU : 2 ^ (e1 + k1) = U * 2 ^ k1 := by unfold U; rw [Nat.pow_add]
  rw [hU]
  have hx : n * m2 * 1048576 ≤ 2 * (m1 * 2 ^ s) * 1048577 := by
    have a1 := Nat.div_add_mod (m1 * 2 ^ s) m2
    have a2 : (m1 * 2 ^ s % m2 != 0).toNat ≤ 1 := Bool.toNat_le _
    have a3 : n * m2 ≤ 2 * (m1 * 2 ^ s) + m2 := by
      rw [hn, Nat.add_mul]
      have a4 : (m1 * 2 ^ s % m2 != 0).toNat * m2 ≤ 1 * m2 := Nat.mul_le_mul_right _ a2
      have a5 : 2 * (m1 * 2 ^ s / m2) * m2 = 2 * (m2 * (m1 * 2 ^ s / m2)) := by rw [Nat.mul_assoc, Nat.mul_comm m2]
      exact aux2 a1 a4 a5
    exact aux3 a3 hs
  rw [e1', e2] at h
  have hg0 : 0 < m2 * 2 ^ k2 * 1048576 := Nat.mul_pos (Nat.mul_pos hp (Nat.two_pow_pos _)) (by decide)
  apply Nat.le_of_mul_le_mul_right _ hg0
  have b1 : n * (U * 2 ^ k1) * (m2 * 2 ^ k2 * 1048576) = n * m2 * 1048576 * (U * 2 ^ k1 * 2 ^ k2) := by ac_rfl
  have b2 : 2 * (m1 * 2 ^ s) * 1048577 * (U * 2 ^ k1 * 2 ^ k2) = m1 * 2 ^ k1 * U * 1048577 * (2 ^ k2 * 2 ^ s * 2) := by ac_rfl
  have b3 : mval c * 2 ^ (k2 + s + 1) * (m2 * 2 ^ k2 * 1048576) = mval c * (m2 * 2 ^ k2) * 1048576 * (2 ^ k2 * 2 ^ s * 2) := by
    rw [Nat.pow_add, Nat.pow_add, Nat.pow_one]; ac_rfl
  rw [b1, b3]
  refine Nat.le_trans (Nat.mul_le_mul_right _ hx) ?_
  rw [b2]
  exact Nat.mul_le_mul_right _ h
end Go.Proofs.Ytcfkhhnkboealaa
