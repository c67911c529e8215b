/- Lengths: not below the greater part, nor above the sum. Plain. -/
import Derived.Test.YtndknkdfbjfjcaaRmb
import Derived.Test.YtndknkdfbjfjcaaRootC
import Derived.Test.YtndknkdfbjfjcaaPos
namespace Go.Proofs.Ytndknkdfbjfjcaa
set_option linter.unusedVariables false
set_option linter.unusedSimpArgs false
set_option maxRecDepth 100000
theorem plc_ex {r : Nat} (h : 4503599627370496 ≤ r) : ∃ s q, r = s * 4503599627370496 + q ∧ 4503599627370496 ≤ q ∧ q < 9007199254740992 := ⟨r / 4503599627370496 - 1, r % 4503599627370496 + 4503599627370496, by omega, by omega, by omega⟩
theorem ulp_le {r s : Nat} (h : r < (s + 2) * 4503599627370496) : mval (r + 1) ≤ mval r + 2 ^ s := by
  have hp := Nat.two_pow_pos s
  rcases Nat.lt_or_ge r 4503599627370496 with h1 | h1
  · have e1 := mval_plc (L := 0) (q := r) (by omega) (.inl rfl)
    have e2 := mval_plc (L := 0) (q := r + 1) (by omega) (.inl rfl)
    rw [Nat.zero_mul, Nat.zero_add, Nat.pow_zero, Nat.mul_one] at e1 e2
    rw [e1, e2]; omega
  · obtain ⟨t, q, rfl, q1, q2⟩ := plc_ex h1
    rw [mval_plc (by omega) (.inr q1), show t * 4503599627370496 + q + 1 = t * 4503599627370496 + (q + 1) by omega, mval_plc (by omega) (.inr (by omega)), Nat.add_mul, Nat.one_mul]
    have : 2 ^ t ≤ 2 ^ s := Nat.pow_le_pow_right (by decide) (by omega)
    omega
theorem ulp_ge {r s : Nat} (h : (s + 1) * 4503599627370496 ≤ r) : mval r + 2 ^ s ≤ mval (r + 1) := by
  obtain ⟨t, q, rfl, q1, q2⟩ := plc_ex (r := r) (by omega)
  rw [mval_plc (by omega) (.inr q1), show t * 4503599627370496 + q + 1 = t * 4503599627370496 + (q + 1) by omega, mval_plc (by omega) (.inr (by omega)), Nat.add_mul, Nat.one_mul]
  have : 2 ^ s ≤ 2 ^ t := Nat.pow_le_pow_right (by decide) (by omega)
  omega
/-- a float's last place is at most a 2^52th of it. -/
theorem ulp_rel {r : Nat} (h : 4503599627370496 ≤ r) : mval r * 4503599627370495 ≤ mval (r - 1) * 4503599627370496 := by
  obtain ⟨t, q, rfl, q1, q2⟩ := plc_ex h
  rw [mval_plc (by omega) (.inr q1)]
  have key : (q - 1) * 2 ^ t ≤ mval (t * 4503599627370496 + q - 1) := by
    by_cases hq : q = 4503599627370496
    · cases t with
      | zero => subst hq; decide +kernel
      | succ t =>
        have e := mval_plc (L := t) (q := 9007199254740991) (by omega) (.inr (by omega))
        rw [show (t + 1) * 4503599627370496 + q - 1 = t * 4503599627370496 + 9007199254740991 by omega, e, hq, Nat.pow_succ]
        generalize 2 ^ t = G
        omega
    · have e := mval_plc (L := t) (q := q - 1) (by omega) (.inr (by omega))
      rw [show t * 4503599627370496 + q - 1 = t * 4503599627370496 + (q - 1) by omega, e]
      exact Nat.le_refl _
  refine Nat.le_trans ?_ (Nat.mul_le_mul_right _ key)
  rw [Nat.mul_right_comm, Nat.mul_right_comm (q - 1)]
  exact Nat.mul_le_mul_right _ (by omega)
/-- the relative error of a rounding, upwards. -/
theorem rel_step {V V1 : Nat} (b : V * 4503599627370495 ≤ V1 * 4503599627370496) : V * 9007199254740991 ≤ (V1 + V) * 4503599627370496 := by
  rw [show (9007199254740991 : Nat) = 4503599627370495 + 4503599627370496 by decide, Nat.mul_add, Nat.add_mul]
  exact Nat.add_le_add_right b _
theorem half_step {x m : Nat} (h : x ≤ 2 * m) : x * 4503599627370496 ≤ m * 9007199254740992 := by omega
theorem rnd_rel {m d r : Nat} (hr : rndQ m d = r) (h : 4503599627370496 ≤ r) (hf : r < 9218868437227405312) : mval r * 2 ^ d * 9007199254740991 ≤ m * 9007199254740992 := by
  have a := rnd_above hr (by omega) hf
  have b := rel_step (ulp_rel h)
  have c := Nat.mul_le_mul_right (2 ^ d) b
  have e : mval r * 2 ^ d * 9007199254740991 = (mval r * 9007199254740991) * 2 ^ d := Nat.mul_right_comm _ _ _
  have f : (mval (r - 1) + mval r) * 4503599627370496 * 2 ^ d = (mval (r - 1) + mval r) * 2 ^ d * 4503599627370496 := Nat.mul_right_comm _ _ _
  rw [e]
  rw [f] at c
  exact Nat.le_trans c (half_step a)
/-- the relative error of a root, upwards. -/
theorem sqrt_rel {r : Nat} (h0 : 0 < r) (hr : r < 9218868437227405312) (h : 4503599627370496 ≤ fsqrt r) : mval (fsqrt r) * 9007199254740991 * (mval (fsqrt r) * 9007199254740991) ≤ mval r * U * (9007199254740992 * 9007199254740992) := by
  have b := ulp_rel h
  have a : ¬ 4 * (mval r * U) < (mval (fsqrt r - 1) + mval (fsqrt r - 1 + 1)) * (mval (fsqrt r - 1) + mval (fsqrt r - 1 + 1)) := by
    intro hh
    have h3 := sqrt_hi h0 hr hh
    have h4 : 0 < fsqrt r := Nat.lt_of_lt_of_le (by decide) h
    generalize fsqrt r = s at h3 h4
    omega
  have hs1 : fsqrt r - 1 + 1 = fsqrt r := Nat.sub_add_cancel (Nat.le_trans (by decide) h)
  rw [hs1] at a
  have c := rel_step b
  have d := sq_le c
  generalize mval (fsqrt r) = S at *
  generalize mval (fsqrt r - 1) = S1 at *
  have e : (S1 + S) * 4503599627370496 * ((S1 + S) * 4503599627370496) = (S1 + S) * (S1 + S) * (4503599627370496 * 4503599627370496) := Nat.mul_mul_mul_comm _ _ _ _
  rw [e] at d
  refine Nat.le_trans d ?_
  have g : (S1 + S) * (S1 + S) ≤ 4 * (mval r * U) := Nat.le_of_not_lt a
  refine Nat.le_trans (Nat.mul_le_mul_right _ g) (Nat.le_of_eq ?_)
  generalize mval r * U = W
  rw [Nat.mul_comm 4 W, Nat.mul_assoc]
/-- a unit of a scaled part's last place. -/
def zz : Nat := 2 ^ (e1 - 53)
theorem zz_pos : 0 < zz := Nat.two_pow_pos _
/-- brought near to one: exactly. -/
theorem scaled_great {p : Nat} (h0 : 0 < p) (hp : p < 9218868437227405312) : ∃ M : Nat, 4503599627370496 ≤ M ∧ M < 9007199254740992 ∧ rndE (mval p) (-(partE p)) = 1021 * 4503599627370496 + M ∧ mval p * 2 ^ (-(partE p)).toNat = M * zz * 2 ^ (partE p).toNat ∧ -1073 ≤ partE p ∧ partE p ≤ 1024 := by
  have hr : rung p = p := p_rung hp
  have hs : sgn p = false := p_sgn hp
  have hf : fin p = true := p_fin hp
  have hn := fin_notN hf
  obtain ⟨G, g1, g2, g3, c, g4, g5⟩ := norm_val hf (by rw [hr]; omega) (by omega)
  rw [hr] at g5
  have g6 := normF_lt (show p < 18446744073709551616 by omega)
  obtain ⟨E, hE⟩ : ∃ E, G / 4503599627370496 = E := ⟨_, rfl⟩
  obtain ⟨M, hM⟩ : ∃ M, M = 4503599627370496 + G % 4503599627370496 := ⟨_, rfl⟩
  have hG : G = (E - 1) * 4503599627370496 + M := by omega
  rw [hG, mval_stp (by omega) (by omega)] at g5
  have hK : partE p = -(c : Int) + (E : Int) - 1022 := by
    unfold partE
    rw [feq_zero hn, isInf0 hn, hf, hn, if_neg (by rw [hr]; simp; omega), g4, exp_field g6, g1, wd_rung (by omega), hE]
  have hc : c ≤ 52 := by
    have : normE p = 0 ∨ normE p = -52 := by unfold normE; split <;> simp
    omega
  have hee := e1_eq
  obtain ⟨L, hL⟩ : ∃ L : Nat, L = 1021 := ⟨_, rfl⟩
  refine ⟨M, by omega, by omega, ?_, ?_, by omega, by omega⟩
  · have e1 := rndE_shift (mval p) c (-(partE p) - c)
    rw [← g5, rndE_shift] at e1
    rw [show -(partE p) = -(partE p) - c + c by omega, ← e1, show -(partE p) - (c : Int) + ((E - 1 : Nat) : Int) = ((L : Nat) : Int) by omega]
    have hl := log2_52 (M := M) (by omega) (by omega)
    rw [rndE_form (m := M) (L := L) (p := L) (q := L) (by omega) (by rw [hl]; omega) (by omega), rne_mul _ _ (Nat.two_pow_pos _)]
    rw [hL]
    exact Nat.min_eq_left (by omega)
  · unfold zz
    have hp2 := Nat.two_pow_pos c
    apply Nat.eq_of_mul_eq_mul_right hp2
    rw [Nat.mul_right_comm, ← g5, Nat.mul_assoc M, Nat.mul_assoc M, Nat.mul_assoc M, ← Nat.pow_add, ← Nat.pow_add, ← Nat.pow_add]
    congr 2
    omega
end Go.Proofs.Ytndknkdfbjfjcaa
