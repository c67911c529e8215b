/- Rounding to the nearest: which rung it is, by the middles; roots of floats by their squares. Plain. -/
import Derived.Test.YtcfkhhnkboealaaScv
import Derived.Test.YtcfkhhnkboealaaSqrt
namespace Go.Proofs.Ytcfkhhnkboealaa
set_option linter.unusedVariables false
set_option linter.unusedSimpArgs false
set_option maxRecDepth 100000
theorem rne_err (n g : Nat) (hg : 0 < g) : 2 * n ≤ (2 * rne n g + 1) * g ∧ 2 * (rne n g * g) ≤ 2 * n + g := by
  unfold rne
  have hm := Nat.mod_lt n hg
  have hd := Nat.div_add_mod n g
  generalize n % g = r at *
  generalize n / g = q at *
  subst hd
  have e1 : (2 * q + 1) * g = 2 * (g * q) + g := by rw [Nat.add_mul, Nat.one_mul, Nat.mul_assoc, Nat.mul_comm q g]
  have e2 : (2 * (q + 1) + 1) * g = 2 * (g * q) + 3 * g := by rw [Nat.add_mul, Nat.one_mul, Nat.mul_assoc, Nat.add_mul, Nat.mul_comm q g]; omega
  have e3 : 2 * ((q + 1) * g) = 2 * (g * q) + 2 * g := by rw [Nat.add_mul, Nat.mul_comm q g]; omega
  have e4 : 2 * (q * g) = 2 * (g * q) := by rw [Nat.mul_comm q g]
  split
  · rename_i h
    simp at h
    rw [e2, e3]
    omega
  · rename_i h
    simp at h
    simp only [Nat.add_zero]
    rw [e1, e4]
    omega
/-- the worth of a place's next one. -/
theorem mval_next {L q : Nat} (hq : q ≤ 9007199254740992) (h : L = 0 ∨ 4503599627370496 ≤ q) : (q + 1) * 2 ^ L ≤ mval (L * 4503599627370496 + q + 1) := by
  by_cases h1 : q + 1 < 9007199254740992
  · rcases h with h | h
    · subst h
      rw [Nat.pow_zero, Nat.mul_one, Nat.zero_mul, Nat.zero_add]
      by_cases h2 : q + 1 < 4503599627370496
      · unfold mval; rw [if_pos h2]; exact Nat.le_refl _
      · have := mval_stp (s := 0) (q := q + 1) (by omega) h1
        rw [Nat.zero_mul, Nat.zero_add, Nat.pow_zero, Nat.mul_one] at this
        rw [this]; exact Nat.le_refl _
    · have := mval_stp (s := L) (q := q + 1) (by omega) h1
      rw [show L * 4503599627370496 + q + 1 = L * 4503599627370496 + (q + 1) by omega, this]; exact Nat.le_refl _
  · by_cases h2 : q + 1 = 9007199254740992
    · have := mval_stp (s := L + 1) (q := 4503599627370496) (by omega) (by omega)
      rw [show L * 4503599627370496 + q + 1 = (L + 1) * 4503599627370496 + 4503599627370496 by omega, this, h2, Nat.pow_succ]
      have := Nat.two_pow_pos L
      omega
    · have h3 : q = 9007199254740992 := by omega
      subst h3
      have := mval_stp (s := L + 1) (q := 4503599627370497) (by omega) (by omega)
      rw [show L * 4503599627370496 + 9007199254740992 + 1 = (L + 1) * 4503599627370496 + 4503599627370497 by omega, this, Nat.pow_succ]
      have := Nat.two_pow_pos L
      omega
theorem mval_plc {L q : Nat} (hq : q ≤ 9007199254740992) (h : L = 0 ∨ 4503599627370496 ≤ q) : mval (L * 4503599627370496 + q) = q * 2 ^ L := by
  by_cases h1 : q = 9007199254740992
  · subst h1
    have := mval_stp (s := L + 1) (q := 4503599627370496) (by omega) (by omega)
    rw [show L * 4503599627370496 + 9007199254740992 = (L + 1) * 4503599627370496 + 4503599627370496 by omega, this, Nat.pow_succ]
    omega
  · rcases h with h | h
    · subst h
      rw [Nat.pow_zero, Nat.mul_one, Nat.zero_mul, Nat.zero_add]
      by_cases h2 : q < 4503599627370496
      · unfold mval; rw [if_pos h2]
      · have := mval_stp (s := 0) (q := q) (by omega) (by omega)
        rwa [Nat.zero_mul, Nat.zero_add, Nat.pow_zero, Nat.mul_one] at this
    · exact mval_stp h (by omega)
/-- the rounded figure and its place. -/
theorem rndQ_plc {m : Nat} (hm : m ≠ 0) (d : Nat) : ∃ L q : Nat, rndQ m d = min (L * 4503599627370496 + q) 9218868437227405312 ∧ q = rne m (2 ^ (d + L)) ∧ q ≤ 9007199254740992 ∧ (L = 0 ∨ (4503599627370496 ≤ q ∧ 4503599627370496 * 2 ^ (d + L) ≤ m)) := by
  have l1 := Nat.log2_self_le hm
  have l2 := @Nat.lt_log2_self m
  refine ⟨m.log2 - 52 - d, _, by unfold rndQ; rw [if_neg hm], rfl, ?_, ?_⟩
  · apply rne_le_of (Nat.two_pow_pos _)
    rw [show (9007199254740992 : Nat) = 2 ^ 53 by decide, ← Nat.pow_add]
    exact Nat.le_of_lt (Nat.lt_of_lt_of_le l2 (Nat.pow_le_pow_right (by decide) (by omega)))
  · by_cases h : m.log2 - 52 - d = 0
    · exact .inl h
    · right
      have h2 : 4503599627370496 * 2 ^ (d + (m.log2 - 52 - d)) ≤ m := by
        rw [show (4503599627370496 : Nat) = 2 ^ 52 by decide, ← Nat.pow_add]
        exact Nat.le_trans (Nat.pow_le_pow_right (by decide) (by omega)) l1
      exact ⟨le_rne_of (Nat.two_pow_pos _) h2, h2⟩
/-- THE MIDDLES: a rounded number lies between the middles beside it. -/
theorem rnd_below {m d r : Nat} (hr : rndQ m d = r) (hf : r < 9218868437227405312) : 2 * m ≤ (mval r + mval (r + 1)) * 2 ^ d := by
  by_cases hm : m = 0
  · subst hm; exact Nat.zero_le _
  · obtain ⟨L, q, h1, h2, h3, h4⟩ := rndQ_plc hm d
    have hrq : r = L * 4503599627370496 + q := by rw [← hr, h1]; rw [hr] at h1; omega
    have h5 : L = 0 ∨ 4503599627370496 ≤ q := h4.imp id (·.1)
    have a := mval_plc h3 h5
    have b := mval_next h3 h5
    rw [hrq, a]
    have e := (rne_err m (2 ^ (d + L)) (Nat.two_pow_pos _)).1
    rw [← h2] at e
    refine Nat.le_trans e ?_
    rw [Nat.pow_add, Nat.mul_comm (2 ^ d), ← Nat.mul_assoc]
    refine Nat.mul_le_mul_right _ ?_
    refine Nat.le_trans ?_ (Nat.add_le_add_left b _)
    rw [← Nat.add_mul]
    exact Nat.le_of_eq (by congr 1; omega)
theorem rnd_above {m d r : Nat} (hr : rndQ m d = r) (h0 : 0 < r) (hf : r < 9218868437227405312) : (mval (r - 1) + mval r) * 2 ^ d ≤ 2 * m := by
  by_cases hm : m = 0
  · subst hm; unfold rndQ at hr; rw [if_pos rfl] at hr; omega
  · obtain ⟨L, q, h1, h2, h3, h4⟩ := rndQ_plc hm d
    have hrq : r = L * 4503599627370496 + q := by rw [hr] at h1; omega
    have h5 : L = 0 ∨ 4503599627370496 ≤ q := h4.imp id (·.1)
    have a := mval_plc h3 h5
    have e := (rne_err m (2 ^ (d + L)) (Nat.two_pow_pos _)).2
    rw [← h2] at e
    by_cases hq : L = 0 ∨ 4503599627370496 < q
    · have b := mval_plc (L := L) (q := q - 1) (by omega) (by omega)
      rw [hrq, a, show L * 4503599627370496 + q - 1 = L * 4503599627370496 + (q - 1) by omega, b]
      rw [Nat.pow_add] at e
      have hp : 0 < 2 ^ d * 2 ^ L := Nat.mul_pos (Nat.two_pow_pos _) (Nat.two_pow_pos _)
      have e1 : (q - 1) * 2 ^ L + q * 2 ^ L = (2 * q - 1) * 2 ^ L := by rw [← Nat.add_mul]; congr 1; omega
      rw [e1, Nat.mul_assoc, Nat.mul_comm (2 ^ L)]
      generalize 2 ^ d * 2 ^ L = G at *
      have hq1 : 1 ≤ q := by omega
      have e2 : (2 * q - 1) * G = 2 * (q * G) - G := by rw [Nat.sub_mul, Nat.one_mul, Nat.mul_assoc]
      rw [e2]; omega
    · have hL : L ≠ 0 := fun h => hq (.inl h)
      have hq2 : q = 4503599627370496 := by
        rcases h5 with h5 | h5
        · exact absurd h5 hL
        · have : ¬ 4503599627370496 < q := fun h => hq (.inr h)
          omega
      have hmm : 4503599627370496 * 2 ^ (d + L) ≤ m := by
        rcases h4 with h4 | h4
        · exact absurd h4 hL
        · exact h4.2
      have hle : mval (r - 1) ≤ mval r := mval_le_iff.2 (by omega)
      have : (mval (r - 1) + mval r) * 2 ^ d ≤ 2 * (mval r * 2 ^ d) := by
        rw [← Nat.mul_assoc]
        exact Nat.mul_le_mul_right _ (by omega)
      refine Nat.le_trans this ?_
      rw [hrq, a, hq2, Nat.mul_assoc, ← Nat.pow_add, Nat.add_comm L d]
      omega
end Go.Proofs.Ytcfkhhnkboealaa
