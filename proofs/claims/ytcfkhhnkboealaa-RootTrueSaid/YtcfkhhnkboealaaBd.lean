/- Bounds of floats by powers of two. -/
import Derived.Test.YtcfkhhnkboealaaWhole
namespace Go.Proofs.Ytcfkhhnkboealaa
open Go.RowKit
set_option linter.unusedVariables false
set_option linter.unusedSimpArgs false
set_option maxRecDepth 100000

/-- at most 2^k -/
structure Bd (f k : Nat) : Prop where
  lt : f < 18446744073709551616
  fin : fin f = true
  le : mval (rung f) ≤ 2 ^ k * U
theorem Bd.mono {f i j : Nat} (h : Bd f i) (hij : i ≤ j) : Bd f j := ⟨h.lt, h.fin, Nat.le_trans h.le (Nat.mul_le_mul_right _ (Nat.pow_le_pow_right (by decide) hij))⟩
theorem Bd.notN {f k : Nat} (h : Bd f k) : isN f = false := fin_notN h.fin
theorem rnd_pow {k : Nat} (hk : k ≤ 900) : rndN (2 ^ k * U) < 9218868437227405312 ∧ mval (rndN (2 ^ k * U)) = 2 ^ k * U := by
  have h := rnd_exact (m := 1) (k := k + e1) (by decide) (by rw [e1_eq]; omega)
  rw [Nat.one_mul, Nat.pow_add] at h
  exact h
theorem Bd.of {s : Bool} {n k : Nat} (hk : k ≤ 900) (h : n ≤ 2 ^ k * U) : Bd (wd s (rndN n)) k := by
  have h2 := rndN_mono h
  obtain ⟨h3, h4⟩ := rnd_pow hk
  refine ⟨wd_lt (rndN_le _), ?_, ?_⟩
  · unfold Proofs.Ytcfkhhnkboealaa.fin; rw [wd_rung (rndN_le _)]; simp; omega
  · rw [wd_rung (rndN_le _)]
    have := mval_le_iff.2 h2
    omega
theorem Bd.mul {f g i j : Nat} (h : Bd f i) (k : Bd g j) (hk : i + j ≤ 900) : Bd (fmul f g) (i + j) := by
  rw [fmul_fin h.fin k.fin]
  have e : rndQ (mval (rung f) * mval (rung g)) 1074 ≤ rndN (2 ^ (i + j) * U) := by
    rw [← rndQ_U, ← e1_eq]
    apply rndQ_mono
    have := Nat.mul_le_mul h.le k.le
    rw [Nat.pow_add]
    have e2 : 2 ^ i * U * (2 ^ j * U) = 2 ^ i * 2 ^ j * U * U := by
      generalize 2 ^ i = a
      generalize 2 ^ j = b
      ac_rfl
    omega
  obtain ⟨h3, h4⟩ := rnd_pow hk
  have hle := rndQ_le (mval (rung f) * mval (rung g)) 1074
  generalize rndQ (mval (rung f) * mval (rung g)) 1074 = r at *
  refine ⟨wd_lt hle, ?_, ?_⟩
  · unfold Proofs.Ytcfkhhnkboealaa.fin; rw [wd_rung hle]; simp; omega
  · rw [wd_rung hle]
    have := mval_le_iff.2 e
    omega
theorem Bd.abs {f k : Nat} (h : Bd f k) : (sval f).natAbs ≤ 2 ^ k * U := by
  have := h.le
  rcases sval_cases f with ⟨_, e⟩ | ⟨_, e⟩ <;> rw [e] <;> omega
theorem Bd.add {f g k : Nat} (h : Bd f k) (h2 : Bd g k) (hk : k + 1 ≤ 900) : Bd (fadd f g) (k + 1) := by
  rw [fadd_fin h.fin h2.fin]
  apply Bd.of hk
  have a := h.abs
  have b := h2.abs
  have e : 2 ^ (k + 1) * U = 2 ^ k * U + 2 ^ k * U := by rw [Nat.pow_succ, Nat.mul_right_comm, Nat.mul_two]
  omega
theorem Bd.sub {f g k : Nat} (h : Bd f k) (h2 : Bd g k) (hk : k + 1 ≤ 900) : Bd (fsub f g) (k + 1) := by
  rw [fsub_fin h.fin h2.fin h2.lt]
  apply Bd.of hk
  have a := h.abs
  have b := h2.abs
  have e : 2 ^ (k + 1) * U = 2 ^ k * U + 2 ^ k * U := by rw [Nat.pow_succ, Nat.mul_right_comm, Nat.mul_two]
  omega
theorem Bd.whole {f k : Nat} (h : Bd f k) (hk : k ≤ 52) : Bd (wholeF f) k ∧ wholeN (rung f) ≤ 2 ^ k := by
  have hN : wholeN (rung f) ≤ 2 ^ k := rne_le_of U_pos h.le
  refine ⟨?_, hN⟩
  rw [whole_eq h.fin]
  exact Bd.of (by omega) (Nat.mul_le_mul_right _ hN)
theorem Bd.const {c k r : Nat} (hc : c < 18446744073709551616) (hf : Proofs.Ytcfkhhnkboealaa.fin c = true) (h : mval (rung c) ≤ mval (4503599627370496 * (1023 + k))) (hk : k ≤ 900) : Bd c k := by
  refine ⟨hc, hf, Nat.le_trans h ?_⟩
  have e : mval (4503599627370496 * (1023 + k)) = 4503599627370496 * 2 ^ (1022 + k) := by
    unfold mval
    rw [if_neg (by omega), Nat.mul_mod_right, Nat.mul_div_cancel_left _ (by decide), show 1023 + k - 1 = 1022 + k by omega]
  rw [e]
  have e2 : 2 ^ k * U = 4503599627370496 * 2 ^ (1022 + k) := by
    unfold U
    rw [← Nat.pow_add, show k + e1 = 52 + (1022 + k) by rw [e1_eq]; omega, Nat.pow_add 2 52, show (2 : Nat) ^ 52 = 4503599627370496 by decide]
  omega
theorem Bd.const' {c k : Nat} (hc : c < 18446744073709551616) (hf : Proofs.Ytcfkhhnkboealaa.fin c = true) (h : rung c ≤ 4503599627370496 * (1023 + k)) (hk : k ≤ 900) : Bd c k := Bd.const (r := 0) hc hf (mval_le_iff.2 h) hk

def fit (f : Nat) : Bool := within f 4697254411347427328
theorem fit_bd {f : Nat} (hl : f < 18446744073709551616) (h : fit f = true) : Bd f 20 := by
  unfold fit within at h
  rw [fle_eq, isN_abs, show isN 4697254411347427328 = false by decide +kernel] at h
  cases hn : isN f
  · rw [hn, sval_abs hn, show sval 4697254411347427328 = ((mval 4697254411347427328 : Nat) : Int) from sval_pos (by decide)] at h
    simp only [Bool.not_false, Bool.true_and, decide_eq_true_eq] at h
    have h2 : mval (rung f) ≤ mval 4697254411347427328 := by omega
    have h3 := mval_le_iff.1 h2
    exact Bd.const' hl (by unfold Proofs.Ytcfkhhnkboealaa.fin; simp; omega) (by omega) (by decide)
  · rw [hn] at h; simp at h
theorem fit_nan {f : Nat} (h : isN f = true) : fit f = false := by unfold fit within; rw [fle_eq, isN_abs, h]; rfl
def wInt (g : Nat) : Int := if sgn g then -((trN (rung g) : Nat) : Int) else ((trN (rung g) : Nat) : Int)
theorem wInt_bd {g k : Nat} (h : Bd g k) : (wInt g).natAbs ≤ 2 ^ k := by
  have h2 : trN (rung g) ≤ 2 ^ k := by
    unfold trN
    have := Nat.div_le_div_right (c := U) h.le
    rwa [Nat.mul_div_cancel _ U_pos] at this
  unfold wInt
  split <;> omega
theorem toInt_wInt {g : Nat} (h : fin g = true) : (Ieee.double.read g).toInt .zero = some (wInt g) := toInt_fin h
end Go.Proofs.Ytcfkhhnkboealaa
