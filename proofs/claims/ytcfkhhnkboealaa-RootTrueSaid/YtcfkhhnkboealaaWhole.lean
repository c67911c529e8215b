/- The nearest whole number: the document's steps come to the library's; floats to whole numbers. No condition. -/
import Derived.Test.YtcfkhhnkboealaaPara
import Derived.Test.YtcfkhhnkboealaaStra
namespace Go.Proofs.Ytcfkhhnkboealaa
open Go.RowKit
set_option linter.unusedVariables false
set_option linter.unusedSimpArgs false
set_option maxRecDepth 100000

theorem U_def : U = 2 ^ e1 := rfl
theorem sval_one' : sval 4607182418800017408 = ((mval 4607182418800017408 : Nat) : Int) := by
  unfold sval; rw [show sgn 4607182418800017408 = false by decide +kernel, show rung 4607182418800017408 = 4607182418800017408 by decide +kernel]; rfl
theorem cut_zero (s : Bool) (n drop : Nat) : Ieee.Toward.zero.cut s n drop = n / 2 ^ drop := by
  unfold Ieee.Toward.cut
  simp only [Bool.toNat_false, Nat.add_zero, Nat.one_shiftLeft]
  by_cases h : drop ≤ n.log2 + 2
  · rw [Nat.min_eq_left h]
  · rw [Nat.min_eq_right (by omega)]
    have b := @Nat.lt_log2_self n
    have c : 2 ^ (n.log2 + 1) ≤ 2 ^ (n.log2 + 2) := Nat.pow_le_pow_right (by decide) (by omega)
    have d : 2 ^ (n.log2 + 2) ≤ 2 ^ drop := Nat.pow_le_pow_right (by decide) (by omega)
    rw [Nat.div_eq_of_lt (by omega), Nat.div_eq_of_lt (by omega)]
/-- A FINITE FLOAT cut towards nought -/
theorem toInt_fin {f : Nat} (hf : fin f = true) : (Ieee.double.read f).toInt .zero = some (if sgn f then -((mval (rung f) / U : Nat) : Int) else ((mval (rung f) / U : Nat) : Int)) := by
  obtain ⟨m, k, hr, hm, _⟩ := read_number (fin_rung hf)
  unfold Ieee.Datum.toInt
  rw [hr]
  simp only [Ieee.Datum.integral, cut_zero]
  rw [signed_eq, hm, Nat.shiftLeft_eq]
  have he := e1_eq
  have key : m * 2 ^ (-1074 + (k : Int)).toNat / 2 ^ (-(-1074 + (k : Int))).toNat = m * 2 ^ k / U := by
    unfold U
    by_cases h : k ≤ e1
    · rw [show (-1074 + (k : Int)).toNat = 0 by omega, show (-(-1074 + (k : Int))).toNat = e1 - k by omega, Nat.pow_zero, Nat.mul_one]
      have e : 2 ^ e1 = 2 ^ (e1 - k) * 2 ^ k := by rw [← Nat.pow_add, Nat.sub_add_cancel h]
      rw [e, Nat.mul_div_mul_right _ _ (Nat.two_pow_pos k)]
    · rw [show (-1074 + (k : Int)).toNat = k - e1 by omega, show (-(-1074 + (k : Int))).toNat = 0 by omega, Nat.pow_zero, Nat.div_one]
      have e : m * 2 ^ k = m * 2 ^ (k - e1) * 2 ^ e1 := by rw [Nat.mul_assoc, ← Nat.pow_add, Nat.sub_add_cancel (by omega)]
      rw [e, Nat.mul_div_cancel _ (Nat.two_pow_pos _)]
  rw [key]
  simp only [Nat.pow_zero, Nat.mul_one]
theorem toIntVal_i64 {f : Nat} {n : Int} (h : (Ieee.double.read f).toInt .zero = some n) (h1 : -9223372036854775808 ≤ n) (h2 : n ≤ 9223372036854775807) : floatToIntVal .f64 f .i64 = some n := by
  unfold floatToIntVal
  rw [show FloatKind.f64.decode f = Ieee.double.read f from rfl, h]
  simp only
  rw [if_pos]
  exact ⟨h1, h2⟩
theorem toIntVal_u64 {f : Nat} {n : Int} (h : (Ieee.double.read f).toInt .zero = some n) (h1 : 0 ≤ n) (h2 : n ≤ 18446744073709551615) : floatToIntVal .f64 f .u64 = some n := by
  unfold floatToIntVal
  rw [show FloatKind.f64.decode f = Ieee.double.read f from rfl, h]
  simp only
  rw [if_pos]
  exact ⟨h1, h2⟩

/-! the document's nearest whole number -/
theorem mval_half : 2 * mval 4602678819172646912 = U := by
  have h := mval_pow (c := 4602678819172646912) (by decide) (by decide)
  obtain ⟨c, hc⟩ : ∃ c, c = 4602678819172646912 := ⟨_, rfl⟩
  rw [← hc] at h ⊢
  obtain ⟨k, hk⟩ : ∃ k, k = c / 4503599627370496 - 1 := ⟨_, rfl⟩
  have he := e1_eq
  have hk2 : e1 = 53 + k := by omega
  rw [h, ← hk]
  unfold U
  rw [hk2, Nat.pow_add, show (2 : Nat) ^ 53 = 9007199254740992 by decide]
  generalize 2 ^ k = p
  omega
theorem mval_one : mval 4607182418800017408 = U := by
  have h := mval_pow (c := 4607182418800017408) (by decide) (by decide)
  obtain ⟨c, hc⟩ : ∃ c, c = 4607182418800017408 := ⟨_, rfl⟩
  rw [← hc] at h ⊢
  obtain ⟨k, hk⟩ : ∃ k, k = c / 4503599627370496 - 1 := ⟨_, rfl⟩
  have he := e1_eq
  have hk2 : e1 = 52 + k := by omega
  rw [h, ← hk]
  unfold U
  rw [hk2, Nat.pow_add, show (2 : Nat) ^ 52 = 4503599627370496 by decide]
theorem mval_split {r : Nat} (hr : r < 9218868437227405312) : ∃ m k, mval r = m * 2 ^ k ∧ m < 9007199254740992 ∧ k ≤ 2045 ∧ (4841369599423283200 ≤ r → e1 ≤ k) := by
  have he := e1_eq
  unfold mval
  by_cases h : r < 4503599627370496
  · rw [if_pos h]; exact ⟨r, 0, by simp, by omega, by omega, by omega⟩
  · rw [if_neg h]; exact ⟨_, _, rfl, by omega, by omega, by omega⟩
theorem rest_exact {r : Nat} (hr : r < 9218868437227405312) : ∃ s, s < 9218868437227405312 ∧ mval s = mval r % U := by
  obtain ⟨m, k, hm, hb, hk, _⟩ := mval_split hr
  rw [hm]
  unfold U
  by_cases h : k ≤ e1
  · have e : 2 ^ e1 = 2 ^ (e1 - k) * 2 ^ k := by rw [← Nat.pow_add, Nat.sub_add_cancel h]
    rw [e, Nat.mul_mod_mul_right]
    exact exact_pow (Nat.lt_of_le_of_lt (Nat.mod_le _ _) hb) hk
  · have e : m * 2 ^ k = m * 2 ^ (k - e1) * 2 ^ e1 := by rw [Nat.mul_assoc, ← Nat.pow_add, Nat.sub_add_cancel (by omega)]
    rw [e, Nat.mul_mod_left]
    exact ⟨0, by decide, mval_zero⟩
theorem whole_big {f : Nat} (hl : f < 18446744073709551616) (hf : fin f = true) (h : 4841369599423283200 ≤ rung f) : wholeF f = f := by
  obtain ⟨m, k, hm, hb, hk, hu⟩ := mval_split (fin_rung hf)
  have hk2 := hu h
  rw [whole_eq hf]
  have e : mval (rung f) = m * 2 ^ (k - e1) * U := by rw [hm]; unfold U; rw [Nat.mul_assoc, ← Nat.pow_add, Nat.sub_add_cancel hk2]
  have e2 : wholeN (rung f) * U = mval (rung f) := by unfold wholeN; rw [e, rne_mul _ _ U_pos]
  rw [e2, rnd_mval (fin_rung hf), ← num_wd hl]
theorem whole_zero {f : Nat} (hl : f < 18446744073709551616) (hn : isN f = false) (h : rung f = 0) : wholeF f = f := by
  have hf : fin f = true := by unfold fin; rw [h]; rfl
  rw [whole_eq hf, h]
  have e : wholeN 0 = 0 := by unfold wholeN; rw [mval_zero]; have := rne_mul 0 U U_pos; rwa [Nat.zero_mul] at this
  rw [e, Nat.zero_mul]
  have e2 : rndN 0 = 0 := rfl
  rw [e2]
  have := num_wd hl
  rw [h] at this
  exact this.symm
theorem whole_inf {f : Nat} (hl : f < 18446744073709551616) (h : rung f = 9218868437227405312) : wholeF f = f := by
  unfold wholeF
  rw [notN_of h, read_inf h]
  show Ieee.double.word _ _ = f
  rw [word_eq, show Ieee.double.infRung = 9218868437227405312 by decide +kernel, ← h, ← num_wd hl]
/-- the whole part, in ones -/
def trN (r : Nat) : Nat := mval r / U
theorem trN_lt {r : Nat} (h : r < 4841369599423283200) : trN r < 4503599627370496 := by
  unfold trN
  have h2 := mval_lt h
  have h3 : mval 4841369599423283200 = 4503599627370496 * U := by
    have h := mval_pow (c := 4841369599423283200) (by decide) (by decide)
    obtain ⟨c, hc⟩ : ∃ c, c = 4841369599423283200 := ⟨_, rfl⟩
    rw [← hc] at h ⊢
    obtain ⟨k, hk⟩ : ∃ k, k = c / 4503599627370496 - 1 := ⟨_, rfl⟩
    have he := e1_eq
    have hke : k = e1 := by omega
    rw [h, ← hk, hke, U_def]
  rw [h3] at h2
  exact (Nat.div_lt_iff_lt_mul U_pos).2 h2
theorem whole_small {f : Nat} (hf : fin f = true) : wholeN (rung f) = trN (rung f) + (if U < 2 * (mval (rung f) % U) || (U == 2 * (mval (rung f) % U) && trN (rung f) % 2 == 1) then 1 else 0) := rfl
theorem rest_eq {r : Nat} (h : r < 4841369599423283200) : ∃ s, s < 9218868437227405312 ∧ fsub r (ofInt (trN r)) = s ∧ mval s = mval r % U := by
  obtain ⟨s, hs, he⟩ := rest_exact (r := r) (by omega)
  have hq := trN_lt h
  have hfin : fin r = true := by unfold fin; rw [rung_pos (by omega)]; simp; omega
  have hsv : sval r = (mval r : Int) := sval_pos (by omega)
  have hd := Nat.div_add_mod (mval r) U
  have h2 : sval r - sval (ofInt (trN r)) = ((mval r % U : Nat) : Int) := by
    rw [hsv, ofInt_sval (by omega)]
    unfold trN
    have e : ((mval r / U : Nat) : Int) * (U : Int) = ((U * (mval r / U) : Nat) : Int) := by rw [Int.natCast_mul, Int.mul_comm]
    rw [e]
    omega
  refine ⟨s, hs, ?_, he⟩
  rw [fsub_fin hfin (ofInt_fin (by omega)) (ofInt_lt _), h2, Int.natAbs_natCast, ← he, rnd_mval hs]
  have h4 : sgn r = false := sgn_rung (by omega)
  rw [h4]
  have h5 : ¬ ((mval s : Nat) : Int) < 0 := by omega
  rw [decide_eq_false h5]
  simp [wd]
theorem ofInt_succ {q : Nat} (h : q < 4503599627370496) : fadd (ofInt q) 4607182418800017408 = ofInt ((q + 1 : Nat) : Int) := by
  rw [fadd_fin (ofInt_fin (by omega)) (by decide +kernel), ofInt_sval (by omega), sval_one', mval_one, ofInt_eq ((q + 1 : Nat) : Int)]
  have e : ((q : Int) * (U : Int) + (U : Int)) = (((q + 1) * U : Nat) : Int) := by rw [Nat.add_mul, Nat.one_mul, Int.natCast_add, Int.natCast_mul]
  have hp : 0 < (q + 1) * U := Nat.mul_pos (by omega) U_pos
  rw [e, if_neg (by omega), decide_eq_false (by omega), decide_eq_false (by omega), Int.natAbs_natCast, Int.natAbs_natCast]
theorem signed_wd {g f : Nat} {r : Nat} (hl : f < 18446744073709551616) (hf : isN f = false) (hr : r ≤ 9218868437227405312) (hg : g = wd false r) : signed g f = wd (sgn f) r := by
  rw [hg]
  unfold signed minus
  rw [wd_notN hr, wd_rung hr, hf]
  unfold wd
  cases sgn f <;> simp <;> omega
theorem refWhole_end {f : Nat} (hl : f < 18446744073709551616) (hf : fin f = true) (h : rung f < 4841369599423283200) (up : Bool)
    (hu : up = (decide (U < 2 * (mval (rung f) % U)) || (U == 2 * (mval (rung f) % U) && trN (rung f) % 2 == 1))) :
    signed (if up then fadd (ofInt (trN (rung f))) 4607182418800017408 else ofInt (trN (rung f))) f = wholeF f := by
  have hq := trN_lt h
  have key : (if up then fadd (ofInt (trN (rung f))) 4607182418800017408 else ofInt (trN (rung f))) = wd false (rndN (wholeN (rung f) * U)) := by
    rw [whole_small hf, ← hu]
    cases up
    · simp only [Bool.false_eq_true, if_false]
      rw [ofInt_eq, decide_eq_false (by omega), Int.natAbs_natCast, Nat.add_zero]
    · simp only [if_true]
      rw [ofInt_succ hq, ofInt_eq, decide_eq_false (by omega), Int.natAbs_natCast]
  rw [key, whole_eq hf]
  exact signed_wd hl (fin_notN hf) (rndN_le _) rfl
theorem whole_plain {x f : Nat} (hx : Rep x f) (h : (fin f && !feq f 0) = false) : wholeF f = f := by
  cases hn : isN f
  · cases hf : fin f
    · exact whole_inf hx.flt (inf_of hn hf)
    · have : feq f 0 = true := by cases h2 : feq f 0 <;> simp [hf, h2] at h ⊢
      rw [feq_zero hn] at this
      exact whole_zero hx.flt hn (by simpa using this)
  · rw [hx.nan_of hn]; unfold wholeF; rw [if_pos isN_nanB]
set_option maxHeartbeats 4000000
section
variable {x y f g : Nat} (hx : Rep x f) (hy : Rep y g) (w : World)
theorem Rep.c2p52b : Rep 14064741636278059008 14064741636278059008 := Rep.self (by decide) (by decide +kernel)
include hx
end
end Go.Proofs.Ytcfkhhnkboealaa
