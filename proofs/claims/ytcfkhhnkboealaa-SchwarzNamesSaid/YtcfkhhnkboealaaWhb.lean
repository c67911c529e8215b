/- The nearest whole number: the document's steps come to the library's; floats to whole numbers. No condition. Bounds of floats by powers of two. Bounds of quotients. -/
import Derived.Test.YtcfkhhnkboealaaPara
import Derived.Test.YtcfkhhnkboealaaStra
namespace Go.Proofs.Ytcfkhhnkboealaa
open Go.RowKit
set_option linter.unusedVariables false
set_option linter.unusedSimpArgs false
set_option maxRecDepth 100000

theorem U_def : U = 2 ^ e1 := rfl
theorem sval_one' : sval 4607182418800017408 = ((mval 4607182418800017408 : Nat) : Int) := by
  unfold sval; rw [show sgn 4607182418800017408 = false by decide +kernel, show rung 4607182418800017408 = 4607182418800017408 by decide +kernel]; rfl
theorem cut_zero (s : Bool) (n drop : Nat) : Ieee.Toward.zero.cut s n drop = n / 2 ^ drop := by
  unfold Ieee.Toward.cut
  simp only [Bool.toNat_false, Nat.add_zero, Nat.one_shiftLeft]
  by_cases h : drop ≤ n.log2 + 2
  · rw [Nat.min_eq_left h]
  · rw [Nat.min_eq_right (by omega)]
    have b := @Nat.lt_log2_self n
    have c : 2 ^ (n.log2 + 1) ≤ 2 ^ (n.log2 + 2) := Nat.pow_le_pow_right (by decide) (by omega)
    have d : 2 ^ (n.log2 + 2) ≤ 2 ^ drop := Nat.pow_le_pow_right (by decide) (by omega)
    rw [Nat.div_eq_of_lt (by omega), Nat.div_eq_of_lt (by omega)]
/-- A FINITE FLOAT cut towards nought -/
theorem toInt_fin {f : Nat} (hf : fin f = true) : (Ieee.double.read f).toInt .zero = some (if sgn f then -((mval (rung f) / U : Nat) : Int) else ((mval (rung f) / U : Nat) : Int)) := by
  obtain ⟨m, k, hr, hm, _⟩ := read_number (fin_rung hf)
  unfold Ieee.Datum.toInt
  rw [hr]
  simp only [Ieee.Datum.integral, cut_zero]
  rw [signed_eq, hm, Nat.shiftLeft_eq]
  have he := e1_eq
  have key : m * 2 ^ (-1074 + (k : Int)).toNat / 2 ^ (-(-1074 + (k : Int))).toNat = m * 2 ^ k / U := by
    unfold U
    by_cases h : k ≤ e1
    · rw [show (-1074 + (k : Int)).toNat = 0 by omega, show (-(-1074 + (k : Int))).toNat = e1 - k by omega, Nat.pow_zero, Nat.mul_one]
      have e : 2 ^ e1 = 2 ^ (e1 - k) * 2 ^ k := by rw [← Nat.pow_add, Nat.sub_add_cancel h]
      rw [e, Nat.mul_div_mul_right _ _ (Nat.two_pow_pos k)]
    · rw [show (-1074 + (k : Int)).toNat = k - e1 by omega, show (-(-1074 + (k : Int))).toNat = 0 by omega, Nat.pow_zero, Nat.div_one]
      have e : m * 2 ^ k = m * 2 ^ (k - e1) * 2 ^ e1 := by rw [Nat.mul_assoc, ← Nat.pow_add, Nat.sub_add_cancel (by omega)]
      rw [e, Nat.mul_div_cancel _ (Nat.two_pow_pos _)]
  rw [key]
  simp only [Nat.pow_zero, Nat.mul_one]
theorem toIntVal_i64 {f : Nat} {n : Int} (h : (Ieee.double.read f).toInt .zero = some n) (h1 : -9223372036854775808 ≤ n) (h2 : n ≤ 9223372036854775807) : floatToIntVal .f64 f .i64 = some n := by
  unfold floatToIntVal
  rw [show FloatKind.f64.decode f = Ieee.double.read f from rfl, h]
  simp only
  rw [if_pos]
  exact ⟨h1, h2⟩
theorem toIntVal_u64 {f : Nat} {n : Int} (h : (Ieee.double.read f).toInt .zero = some n) (h1 : 0 ≤ n) (h2 : n ≤ 18446744073709551615) : floatToIntVal .f64 f .u64 = some n := by
  unfold floatToIntVal
  rw [show FloatKind.f64.decode f = Ieee.double.read f from rfl, h]
  simp only
  rw [if_pos]
  exact ⟨h1, h2⟩

/-! the document's nearest whole number -/
theorem mval_half : 2 * mval 4602678819172646912 = U := by
  have h := mval_pow (c := 4602678819172646912) (by decide) (by decide)
  obtain ⟨c, hc⟩ : ∃ c, c = 4602678819172646912 := ⟨_, rfl⟩
  rw [← hc] at h ⊢
  obtain ⟨k, hk⟩ : ∃ k, k = c / 4503599627370496 - 1 := ⟨_, rfl⟩
  have he := e1_eq
  have hk2 : e1 = 53 + k := by omega
  rw [h, ← hk]
  unfold U
  rw [hk2, Nat.pow_add, show (2 : Nat) ^ 53 = 9007199254740992 by decide]
  generalize 2 ^ k = p
  omega
theorem mval_one : mval 4607182418800017408 = U := by
  have h := mval_pow (c := 4607182418800017408) (by decide) (by decide)
  obtain ⟨c, hc⟩ : ∃ c, c = 4607182418800017408 := ⟨_, rfl⟩
  rw [← hc] at h ⊢
  obtain ⟨k, hk⟩ : ∃ k, k = c / 4503599627370496 - 1 := ⟨_, rfl⟩
  have he := e1_eq
  have hk2 : e1 = 52 + k := by omega
  rw [h, ← hk]
  unfold U
  rw [hk2, Nat.pow_add, show (2 : Nat) ^ 52 = 4503599627370496 by decide]
theorem mval_split {r : Nat} (hr : r < 9218868437227405312) : ∃ m k, mval r = m * 2 ^ k ∧ m < 9007199254740992 ∧ k ≤ 2045 ∧ (4841369599423283200 ≤ r → e1 ≤ k) := by
  have he := e1_eq
  unfold mval
  by_cases h : r < 4503599627370496
  · rw [if_pos h]; exact ⟨r, 0, by simp, by omega, by omega, by omega⟩
  · rw [if_neg h]; exact ⟨_, _, rfl, by omega, by omega, by omega⟩
theorem rest_exact {r : Nat} (hr : r < 9218868437227405312) : ∃ s, s < 9218868437227405312 ∧ mval s = mval r % U := by
  obtain ⟨m, k, hm, hb, hk, _⟩ := mval_split hr
  rw [hm]
  unfold U
  by_cases h : k ≤ e1
  · have e : 2 ^ e1 = 2 ^ (e1 - k) * 2 ^ k := by rw [← Nat.pow_add, Nat.sub_add_cancel h]
    rw [e, Nat.mul_mod_mul_right]
    exact exact_pow (Nat.lt_of_le_of_lt (Nat.mod_le _ _) hb) hk
  · have e : m * 2 ^ k = m * 2 ^ (k - e1) * 2 ^ e1 := by rw [Nat.mul_assoc, ← Nat.pow_add, Nat.sub_add_cancel (by omega)]
    rw [e, Nat.mul_mod_left]
    exact ⟨0, by decide, mval_zero⟩
theorem whole_big {f : Nat} (hl : f < 18446744073709551616) (hf : fin f = true) (h : 4841369599423283200 ≤ rung f) : wholeF f = f := by
  obtain ⟨m, k, hm, hb, hk, hu⟩ := mval_split (fin_rung hf)
  have hk2 := hu h
  rw [whole_eq hf]
  have e : mval (rung f) = m * 2 ^ (k - e1) * U := by rw [hm]; unfold U; rw [Nat.mul_assoc, ← Nat.pow_add, Nat.sub_add_cancel hk2]
  have e2 : wholeN (rung f) * U = mval (rung f) := by unfold wholeN; rw [e, rne_mul _ _ U_pos]
  rw [e2, rnd_mval (fin_rung hf), ← num_wd hl]
theorem whole_zero {f : Nat} (hl : f < 18446744073709551616) (hn : isN f = false) (h : rung f = 0) : wholeF f = f := by
  have hf : fin f = true := by unfold fin; rw [h]; rfl
  rw [whole_eq hf, h]
  have e : wholeN 0 = 0 := by unfold wholeN; rw [mval_zero]; have := rne_mul 0 U U_pos; rwa [Nat.zero_mul] at this
  rw [e, Nat.zero_mul]
  have e2 : rndN 0 = 0 := rfl
  rw [e2]
  have := num_wd hl
  rw [h] at this
  exact this.symm
theorem whole_inf {f : Nat} (hl : f < 18446744073709551616) (h : rung f = 9218868437227405312) : wholeF f = f := by
  unfold wholeF
  rw [notN_of h, read_inf h]
  show Ieee.double.word _ _ = f
  rw [word_eq, show Ieee.double.infRung = 9218868437227405312 by decide +kernel, ← h, ← num_wd hl]
/-- the whole part, in ones -/
def trN (r : Nat) : Nat := mval r / U
theorem trN_lt {r : Nat} (h : r < 4841369599423283200) : trN r < 4503599627370496 := by
  unfold trN
  have h2 := mval_lt h
  have h3 : mval 4841369599423283200 = 4503599627370496 * U := by
    have h := mval_pow (c := 4841369599423283200) (by decide) (by decide)
    obtain ⟨c, hc⟩ : ∃ c, c = 4841369599423283200 := ⟨_, rfl⟩
    rw [← hc] at h ⊢
    obtain ⟨k, hk⟩ : ∃ k, k = c / 4503599627370496 - 1 := ⟨_, rfl⟩
    have he := e1_eq
    have hke : k = e1 := by omega
    rw [h, ← hk, hke, U_def]
  rw [h3] at h2
  exact (Nat.div_lt_iff_lt_mul U_pos).2 h2
theorem whole_small {f : Nat} (hf : fin f = true) : wholeN (rung f) = trN (rung f) + (if U < 2 * (mval (rung f) % U) || (U == 2 * (mval (rung f) % U) && trN (rung f) % 2 == 1) then 1 else 0) := rfl
theorem rest_eq {r : Nat} (h : r < 4841369599423283200) : ∃ s, s < 9218868437227405312 ∧ fsub r (ofInt (trN r)) = s ∧ mval s = mval r % U := by
  obtain ⟨s, hs, he⟩ := rest_exact (r := r) (by omega)
  have hq := trN_lt h
  have hfin : fin r = true := by unfold fin; rw [rung_pos (by omega)]; simp; omega
  have hsv : sval r = (mval r : Int) := sval_pos (by omega)
  have hd := Nat.div_add_mod (mval r) U
  have h2 : sval r - sval (ofInt (trN r)) = ((mval r % U : Nat) : Int) := by
    rw [hsv, ofInt_sval (by omega)]
    unfold trN
    have e : ((mval r / U : Nat) : Int) * (U : Int) = ((U * (mval r / U) : Nat) : Int) := by rw [Int.natCast_mul, Int.mul_comm]
    rw [e]
    omega
  refine ⟨s, hs, ?_, he⟩
  rw [fsub_fin hfin (ofInt_fin (by omega)) (ofInt_lt _), h2, Int.natAbs_natCast, ← he, rnd_mval hs]
  have h4 : sgn r = false := sgn_rung (by omega)
  rw [h4]
  have h5 : ¬ ((mval s : Nat) : Int) < 0 := by omega
  rw [decide_eq_false h5]
  simp [wd]
theorem ofInt_succ {q : Nat} (h : q < 4503599627370496) : fadd (ofInt q) 4607182418800017408 = ofInt ((q + 1 : Nat) : Int) := by
  rw [fadd_fin (ofInt_fin (by omega)) (by decide +kernel), ofInt_sval (by omega), sval_one', mval_one, ofInt_eq ((q + 1 : Nat) : Int)]
  have e : ((q : Int) * (U : Int) + (U : Int)) = (((q + 1) * U : Nat) : Int) := by rw [Nat.add_mul, Nat.one_mul, Int.natCast_add, Int.natCast_mul]
  have hp : 0 < (q + 1) * U := Nat.mul_pos (by omega) U_pos
  rw [e, if_neg (by omega), decide_eq_false (by omega), decide_eq_false (by omega), Int.natAbs_natCast, Int.natAbs_natCast]
theorem signed_wd {g f : Nat} {r : Nat} (hl : f < 18446744073709551616) (hf : isN f = false) (hr : r ≤ 9218868437227405312) (hg : g = wd false r) : signed g f = wd (sgn f) r := by
  rw [hg]
  unfold signed minus
  rw [wd_notN hr, wd_rung hr, hf]
  unfold wd
  cases sgn f <;> simp <;> omega
theorem refWhole_end {f : Nat} (hl : f < 18446744073709551616) (hf : fin f = true) (h : rung f < 4841369599423283200) (up : Bool)
    (hu : up = (decide (U < 2 * (mval (rung f) % U)) || (U == 2 * (mval (rung f) % U) && trN (rung f) % 2 == 1))) :
    signed (if up then fadd (ofInt (trN (rung f))) 4607182418800017408 else ofInt (trN (rung f))) f = wholeF f := by
  have hq := trN_lt h
  have key : (if up then fadd (ofInt (trN (rung f))) 4607182418800017408 else ofInt (trN (rung f))) = wd false (rndN (wholeN (rung f) * U)) := by
    rw [whole_small hf, ← hu]
    cases up
    · simp only [Bool.false_eq_true, if_false]
      rw [ofInt_eq, decide_eq_false (by omega), Int.natAbs_natCast, Nat.add_zero]
    · simp only [if_true]
      rw [ofInt_succ hq, ofInt_eq, decide_eq_false (by omega), Int.natAbs_natCast]
  rw [key, whole_eq hf]
  exact signed_wd hl (fin_notN hf) (rndN_le _) rfl
theorem whole_plain {x f : Nat} (hx : Rep x f) (h : (fin f && !feq f 0) = false) : wholeF f = f := by
  cases hn : isN f
  · cases hf : fin f
    · exact whole_inf hx.flt (inf_of hn hf)
    · have : feq f 0 = true := by cases h2 : feq f 0 <;> simp [hf, h2] at h ⊢
      rw [feq_zero hn] at this
      exact whole_zero hx.flt hn (by simpa using this)
  · rw [hx.nan_of hn]; unfold wholeF; rw [if_pos isN_nanB]
set_option maxHeartbeats 4000000
section
variable {x y f g : Nat} (hx : Rep x f) (hy : Rep y g) (w : World)
theorem Rep.c2p52b : Rep 14064741636278059008 14064741636278059008 := Rep.self (by decide) (by decide +kernel)
include hx
end
end Go.Proofs.Ytcfkhhnkboealaa
namespace Go.Proofs.Ytcfkhhnkboealaa
open Go.RowKit
set_option linter.unusedVariables false
set_option linter.unusedSimpArgs false
set_option maxRecDepth 100000

/-- at most 2^k -/
structure Bd (f k : Nat) : Prop where
  lt : f < 18446744073709551616
  fin : fin f = true
  le : mval (rung f) ≤ 2 ^ k * U
theorem Bd.mono {f i j : Nat} (h : Bd f i) (hij : i ≤ j) : Bd f j := ⟨h.lt, h.fin, Nat.le_trans h.le (Nat.mul_le_mul_right _ (Nat.pow_le_pow_right (by decide) hij))⟩
theorem Bd.notN {f k : Nat} (h : Bd f k) : isN f = false := fin_notN h.fin
theorem rnd_pow {k : Nat} (hk : k ≤ 900) : rndN (2 ^ k * U) < 9218868437227405312 ∧ mval (rndN (2 ^ k * U)) = 2 ^ k * U := by
  have h := rnd_exact (m := 1) (k := k + e1) (by decide) (by rw [e1_eq]; omega)
  rw [Nat.one_mul, Nat.pow_add] at h
  exact h
theorem Bd.of {s : Bool} {n k : Nat} (hk : k ≤ 900) (h : n ≤ 2 ^ k * U) : Bd (wd s (rndN n)) k := by
  have h2 := rndN_mono h
  obtain ⟨h3, h4⟩ := rnd_pow hk
  refine ⟨wd_lt (rndN_le _), ?_, ?_⟩
  · unfold Proofs.Ytcfkhhnkboealaa.fin; rw [wd_rung (rndN_le _)]; simp; omega
  · rw [wd_rung (rndN_le _)]
    have := mval_le_iff.2 h2
    omega
theorem Bd.mul {f g i j : Nat} (h : Bd f i) (k : Bd g j) (hk : i + j ≤ 900) : Bd (fmul f g) (i + j) := by
  rw [fmul_fin h.fin k.fin]
  have e : rndQ (mval (rung f) * mval (rung g)) 1074 ≤ rndN (2 ^ (i + j) * U) := by
    rw [← rndQ_U, ← e1_eq]
    apply rndQ_mono
    have := Nat.mul_le_mul h.le k.le
    rw [Nat.pow_add]
    have e2 : 2 ^ i * U * (2 ^ j * U) = 2 ^ i * 2 ^ j * U * U := by
      generalize 2 ^ i = a
      generalize 2 ^ j = b
      ac_rfl
    omega
  obtain ⟨h3, h4⟩ := rnd_pow hk
  have hle := rndQ_le (mval (rung f) * mval (rung g)) 1074
  generalize rndQ (mval (rung f) * mval (rung g)) 1074 = r at *
  refine ⟨wd_lt hle, ?_, ?_⟩
  · unfold Proofs.Ytcfkhhnkboealaa.fin; rw [wd_rung hle]; simp; omega
  · rw [wd_rung hle]
    have := mval_le_iff.2 e
    omega
theorem Bd.abs {f k : Nat} (h : Bd f k) : (sval f).natAbs ≤ 2 ^ k * U := by
  have := h.le
  rcases sval_cases f with ⟨_, e⟩ | ⟨_, e⟩ <;> rw [e] <;> omega
theorem Bd.add {f g k : Nat} (h : Bd f k) (h2 : Bd g k) (hk : k + 1 ≤ 900) : Bd (fadd f g) (k + 1) := by
  rw [fadd_fin h.fin h2.fin]
  apply Bd.of hk
  have a := h.abs
  have b := h2.abs
  have e : 2 ^ (k + 1) * U = 2 ^ k * U + 2 ^ k * U := by rw [Nat.pow_succ, Nat.mul_right_comm, Nat.mul_two]
  omega
theorem Bd.sub {f g k : Nat} (h : Bd f k) (h2 : Bd g k) (hk : k + 1 ≤ 900) : Bd (fsub f g) (k + 1) := by
  rw [fsub_fin h.fin h2.fin h2.lt]
  apply Bd.of hk
  have a := h.abs
  have b := h2.abs
  have e : 2 ^ (k + 1) * U = 2 ^ k * U + 2 ^ k * U := by rw [Nat.pow_succ, Nat.mul_right_comm, Nat.mul_two]
  omega
theorem Bd.whole {f k : Nat} (h : Bd f k) (hk : k ≤ 52) : Bd (wholeF f) k ∧ wholeN (rung f) ≤ 2 ^ k := by
  have hN : wholeN (rung f) ≤ 2 ^ k := rne_le_of U_pos h.le
  refine ⟨?_, hN⟩
  rw [whole_eq h.fin]
  exact Bd.of (by omega) (Nat.mul_le_mul_right _ hN)
theorem Bd.const {c k r : Nat} (hc : c < 18446744073709551616) (hf : Proofs.Ytcfkhhnkboealaa.fin c = true) (h : mval (rung c) ≤ mval (4503599627370496 * (1023 + k))) (hk : k ≤ 900) : Bd c k := by
  refine ⟨hc, hf, Nat.le_trans h ?_⟩
  have e : mval (4503599627370496 * (1023 + k)) = 4503599627370496 * 2 ^ (1022 + k) := by
    unfold mval
    rw [if_neg (by omega), Nat.mul_mod_right, Nat.mul_div_cancel_left _ (by decide), show 1023 + k - 1 = 1022 + k by omega]
  rw [e]
  have e2 : 2 ^ k * U = 4503599627370496 * 2 ^ (1022 + k) := by
    unfold U
    rw [← Nat.pow_add, show k + e1 = 52 + (1022 + k) by rw [e1_eq]; omega, Nat.pow_add 2 52, show (2 : Nat) ^ 52 = 4503599627370496 by decide]
  omega
theorem Bd.const' {c k : Nat} (hc : c < 18446744073709551616) (hf : Proofs.Ytcfkhhnkboealaa.fin c = true) (h : rung c ≤ 4503599627370496 * (1023 + k)) (hk : k ≤ 900) : Bd c k := Bd.const (r := 0) hc hf (mval_le_iff.2 h) hk

def fit (f : Nat) : Bool := within f 4697254411347427328
theorem fit_bd {f : Nat} (hl : f < 18446744073709551616) (h : fit f = true) : Bd f 20 := by
  unfold fit within at h
  rw [fle_eq, isN_abs, show isN 4697254411347427328 = false by decide +kernel] at h
  cases hn : isN f
  · rw [hn, sval_abs hn, show sval 4697254411347427328 = ((mval 4697254411347427328 : Nat) : Int) from sval_pos (by decide)] at h
    simp only [Bool.not_false, Bool.true_and, decide_eq_true_eq] at h
    have h2 : mval (rung f) ≤ mval 4697254411347427328 := by omega
    have h3 := mval_le_iff.1 h2
    exact Bd.const' hl (by unfold Proofs.Ytcfkhhnkboealaa.fin; simp; omega) (by omega) (by decide)
  · rw [hn] at h; simp at h
theorem fit_nan {f : Nat} (h : isN f = true) : fit f = false := by unfold fit within; rw [fle_eq, isN_abs, h]; rfl
def wInt (g : Nat) : Int := if sgn g then -((trN (rung g) : Nat) : Int) else ((trN (rung g) : Nat) : Int)
theorem wInt_bd {g k : Nat} (h : Bd g k) : (wInt g).natAbs ≤ 2 ^ k := by
  have h2 : trN (rung g) ≤ 2 ^ k := by
    unfold trN
    have := Nat.div_le_div_right (c := U) h.le
    rwa [Nat.mul_div_cancel _ U_pos] at this
  unfold wInt
  split <;> omega
theorem toInt_wInt {g : Nat} (h : fin g = true) : (Ieee.double.read g).toInt .zero = some (wInt g) := toInt_fin h
end Go.Proofs.Ytcfkhhnkboealaa
namespace Go.Proofs.Ytcfkhhnkboealaa
open Go.RowKit
set_option linter.unusedVariables false
set_option linter.unusedSimpArgs false
set_option maxRecDepth 100000

theorem aux1 {m A B Q R : Nat} (hQ : Q ≤ R) (h : m < A) (k : A * R ≤ B) : m * Q ≤ B :=
  Nat.le_trans (Nat.mul_le_mul (Nat.le_of_lt h) hQ) k
theorem aux2 {A B C D E m : Nat} (h1 : E + D = A) (h2 : B ≤ 1 * m) (h3 : C = 2 * E) : C + B ≤ 2 * A + m := by omega
theorem aux3 {A B m Q : Nat} (h1 : A ≤ 2 * B + m) (h2 : m * Q ≤ B) : A * Q ≤ 2 * B * (Q + 1) := by
  have a := Nat.mul_le_mul_right Q h1
  rw [Nat.add_mul] at a
  rw [Nat.mul_add, Nat.mul_one]
  omega
theorem nearest_any (neg : Bool) (m a b : Nat) (p : Int) (hp : p = -1074 + (a : Int) - (b : Int)) : Ieee.double.nearest neg m p = Ieee.double.word neg (rndQ (m * 2 ^ a) b) := by
  subst hp
  by_cases h : b ≤ a
  · rw [show -1074 + (a : Int) - (b : Int) = -1074 + ((a - b : Nat) : Int) by omega, nearest_int]
    congr 1
    have := rndQ_scale (m * 2 ^ (a - b)) 0 b
    rw [Nat.zero_add, Nat.mul_assoc, ← Nat.pow_add, Nat.sub_add_cancel h] at this
    exact this.symm
  · rw [show -1074 + (a : Int) - (b : Int) = -1074 - ((b - a : Nat) : Int) by omega, nearest_frac]
    congr 1
    have := rndQ_scale m (b - a) a
    rw [Nat.sub_add_cancel (by omega)] at this
    exact this.symm
theorem fdiv_fin {f g : Nat} (hf : Proofs.Ytcfkhhnkboealaa.fin f = true) (hg : Proofs.Ytcfkhhnkboealaa.fin g = true) (h0 : rung g ≠ 0) :
    ∃ m1 k1 m2 k2 s n, mval (rung f) = m1 * 2 ^ k1 ∧ mval (rung g) = m2 * 2 ^ k2 ∧ 0 < m2 ∧ n = 2 * (m1 * 2 ^ s / m2) + (m1 * 2 ^ s % m2 != 0).toNat ∧ (m1 ≠ 0 → m2 * 1048576 ≤ m1 * 2 ^ s) ∧
      fdiv f g = wd (sgn f ^^ sgn g) (rndQ (n * 2 ^ (e1 + k1)) (k2 + s + 1)) := by
  obtain ⟨m1, k1, hr1, hm1, hb1, hk1⟩ := read_number (fin_rung hf)
  obtain ⟨m2, k2, hr2, hm2, hb2, hk2⟩ := read_number (fin_rung hg)
  have h2 : m2 ≠ 0 := by
    intro h; rw [h, Nat.zero_mul] at hm2; have := mval_pos (show 0 < rung g by omega); omega
  have hl1 : m1.log2 ≤ 52 := by
    by_cases h : m1 = 0
    · subst h; decide
    · have := (Nat.log2_lt h (k := 53)).2 (by omega); omega
  refine ⟨m1, k1, m2, k2, 54 + m2.log2 - m1.log2, _, hm1, hm2, by omega, rfl, ?_, ?_⟩
  · intro h1
    have a1 := Nat.log2_self_le h1
    have a2 : m2 < 2 ^ (m2.log2 + 1) := Nat.lt_log2_self
    have a3 : 2 ^ m1.log2 * 2 ^ (54 + m2.log2 - m1.log2) = 2 ^ (m2.log2 + 1) * 9007199254740992 := by
      rw [← Nat.pow_add, show m1.log2 + (54 + m2.log2 - m1.log2) = m2.log2 + 1 + 53 by omega, Nat.pow_add]
    have a4 : 2 ^ m1.log2 * 2 ^ (54 + m2.log2 - m1.log2) ≤ m1 * 2 ^ (54 + m2.log2 - m1.log2) := Nat.mul_le_mul_right _ a1
    rw [a3] at a4
    exact aux1 (by decide) a2 a4
  · rw [div_def, hr1, hr2]
    have hfb : Ieee.double.fractionBits + 2 = 54 := rfl
    rw [hfb]
    simp only [Ieee.Datum.quotient]
    rw [if_neg (by simpa using h2)]
    simp only [Option.map_some, canon]
    rw [Nat.shiftLeft_eq]
    show Ieee.double.nearest _ _ _ = _
    rw [nearest_any _ _ (e1 + k1) (k2 + (54 + m2.log2 - m1.log2) + 1) _ (by rw [e1_eq]; omega), word_eq]
theorem fdiv_le {f g c : Nat} (hf : Proofs.Ytcfkhhnkboealaa.fin f = true) (hg : Proofs.Ytcfkhhnkboealaa.fin g = true) (h0 : rung g ≠ 0) (hc : c < 9218868437227405312)
    (h : mval (rung f) * U * 1048577 ≤ mval c * mval (rung g) * 1048576) : ∃ r, fdiv f g = wd (sgn f ^^ sgn g) r ∧ r ≤ c := by
  obtain ⟨m1, k1, m2, k2, s, n, e1', e2, hp, hn, hs, he⟩ := fdiv_fin hf hg h0
  refine ⟨_, he, ?_⟩
  by_cases hz : m1 = 0
  · subst hz
    have : n = 0 := by rw [hn]; simp
    rw [this, Nat.zero_mul]
    unfold rndQ; simp
  have hs := hs hz
  have h1 : rndQ (mval c * 2 ^ (k2 + s + 1)) (k2 + s + 1) = c := by rw [rndQ_cancel, rnd_mval hc]
  refine Nat.le_trans (rndQ_mono ?_) (Nat.le_of_eq h1)
  have hU : 2 ^ (e1 + k1) = U * 2 ^ k1 := by unfold U; rw [Nat.pow_add]
  rw [hU]
  have hx : n * m2 * 1048576 ≤ 2 * (m1 * 2 ^ s) * 1048577 := by
    have a1 := Nat.div_add_mod (m1 * 2 ^ s) m2
    have a2 : (m1 * 2 ^ s % m2 != 0).toNat ≤ 1 := Bool.toNat_le _
    have a3 : n * m2 ≤ 2 * (m1 * 2 ^ s) + m2 := by
      rw [hn, Nat.add_mul]
      have a4 : (m1 * 2 ^ s % m2 != 0).toNat * m2 ≤ 1 * m2 := Nat.mul_le_mul_right _ a2
      have a5 : 2 * (m1 * 2 ^ s / m2) * m2 = 2 * (m2 * (m1 * 2 ^ s / m2)) := by rw [Nat.mul_assoc, Nat.mul_comm m2]
      exact aux2 a1 a4 a5
    exact aux3 a3 hs
  rw [e1', e2] at h
  have hg0 : 0 < m2 * 2 ^ k2 * 1048576 := Nat.mul_pos (Nat.mul_pos hp (Nat.two_pow_pos _)) (by decide)
  apply Nat.le_of_mul_le_mul_right _ hg0
  have b1 : n * (U * 2 ^ k1) * (m2 * 2 ^ k2 * 1048576) = n * m2 * 1048576 * (U * 2 ^ k1 * 2 ^ k2) := by ac_rfl
  have b2 : 2 * (m1 * 2 ^ s) * 1048577 * (U * 2 ^ k1 * 2 ^ k2) = m1 * 2 ^ k1 * U * 1048577 * (2 ^ k2 * 2 ^ s * 2) := by ac_rfl
  have b3 : mval c * 2 ^ (k2 + s + 1) * (m2 * 2 ^ k2 * 1048576) = mval c * (m2 * 2 ^ k2) * 1048576 * (2 ^ k2 * 2 ^ s * 2) := by
    rw [Nat.pow_add, Nat.pow_add, Nat.pow_one]; ac_rfl
  rw [b1, b3]
  refine Nat.le_trans (Nat.mul_le_mul_right _ hx) ?_
  rw [b2]
  exact Nat.mul_le_mul_right _ h
end Go.Proofs.Ytcfkhhnkboealaa
