/- The nearest whole number: the document's steps come to the library's; floats to whole numbers. No condition. -/
import Derived.Test.YtndknkdfbjfjcaaDoorPara
import Derived.Test.YtndknkdfbjfjcaaDoorStra
namespace Go.Proofs.YtndknkdfbjfjcaaDoor
open Go.RowKit
set_option linter.unusedVariables false
set_option linter.unusedSimpArgs false
set_option maxRecDepth 100000

theorem U_def : U = 2 ^ e1 := rfl
theorem sval_one' : sval 4607182418800017408 = ((mval 4607182418800017408 : Nat) : Int) := by
  unfold sval; rw [show sgn 4607182418800017408 = false by decide +kernel, show rung 4607182418800017408 = 4607182418800017408 by decide +kernel]; rfl
theorem cut_zero (s : Bool) (n drop : Nat) : Ieee.Toward.zero.cut s n drop = n / 2 ^ drop := by
  unfold Ieee.Toward.cut
  simp only [Bool.toNat_false, Nat.add_zero, Nat.one_shiftLeft]
  by_cases h : drop ≤ n.log2 + 2
  · rw [Nat.min_eq_left h]
  · rw [Nat.min_eq_right (by omega)]
    have b := @Nat.lt_log2_self n
    have c : 2 ^ (n.log2 + 1) ≤ 2 ^ (n.log2 + 2) := Nat.pow_le_pow_right (by decide) (by omega)
    have d : 2 ^ (n.log2 + 2) ≤ 2 ^ drop := Nat.pow_le_pow_right (by decide) (by omega)
    rw [Nat.div_eq_of_lt (by omega), Nat.div_eq_of_lt (by omega)]
/-- A FINITE FLOAT cut towards nought -/
theorem toInt_fin {f : Nat} (hf : fin f = true) : (Ieee.double.read f).toInt .zero = some (if sgn f then -((mval (rung f) / U : Nat) : Int) else ((mval (rung f) / U : Nat) : Int)) := by
  obtain ⟨m, k, hr, hm, _⟩ := read_number (fin_rung hf)
  unfold Ieee.Datum.toInt
  rw [hr]
  simp only [Ieee.Datum.integral, cut_zero]
  rw [signed_eq, hm, Nat.shiftLeft_eq]
  have he := e1_eq
  have key : m * 2 ^ (-1074 + (k : Int)).toNat / 2 ^ (-(-1074 + (k : Int))).toNat = m * 2 ^ k / U := by
    unfold U
    by_cases h : k ≤ e1
    · rw [show (-1074 + (k : Int)).toNat = 0 by omega, show (-(-1074 + (k : Int))).toNat = e1 - k by omega, Nat.pow_zero, Nat.mul_one]
      have e : 2 ^ e1 = 2 ^ (e1 - k) * 2 ^ k := by rw [← Nat.pow_add, Nat.sub_add_cancel h]
      rw [e, Nat.mul_div_mul_right _ _ (Nat.two_pow_pos k)]
    · rw [show (-1074 + (k : Int)).toNat = k - e1 by omega, show (-(-1074 + (k : Int))).toNat = 0 by omega, Nat.pow_zero, Nat.div_one]
      have e : m * 2 ^ k = m * 2 ^ (k - e1) * 2 ^ e1 := by rw [Nat.mul_assoc, ← Nat.pow_add, Nat.sub_add_cancel (by omega)]
      rw [e, Nat.mul_div_cancel _ (Nat.two_pow_pos _)]
  rw [key]
  simp only [Nat.pow_zero, Nat.mul_one]
theorem toIntVal_i64 {f : Nat} {n : Int} (h : (Ieee.double.read f).toInt .zero = some n) (h1 : -9223372036854775808 ≤ n) (h2 : n ≤ 9223372036854775807) : floatToIntVal .f64 f .i64 = some n := by
  unfold floatToIntVal
  rw [show FloatKind.f64.decode f = Ieee.double.read f from rfl, h]
  simp only
  rw [if_pos]
  exact ⟨h1, h2⟩
theorem toIntVal_u64 {f : Nat} {n : Int} (h : (Ieee.double.read f).toInt .zero = some n) (h1 : 0 ≤ n) (h2 : n ≤ 18446744073709551615) : floatToIntVal .f64 f .u64 = some n := by
  unfold floatToIntVal
  rw [show FloatKind.f64.decode f = Ieee.double.read f from rfl, h]
  simp only
  rw [if_pos]
  exact ⟨h1, h2⟩

/-! the document's nearest whole number -/
theorem mval_half : 2 * mval 4602678819172646912 = U := by
  have h := mval_pow (c := 4602678819172646912) (by decide) (by decide)
  obtain ⟨c, hc⟩ : ∃ c, c = 4602678819172646912 := ⟨_, rfl⟩
  rw [← hc] at h ⊢
  obtain ⟨k, hk⟩ : ∃ k, k = c / 4503599627370496 - 1 := ⟨_, rfl⟩
  have he := e1_eq
  have hk2 : e1 = 53 + k := by omega
  rw [h, ← hk]
  unfold U
  rw [hk2, Nat.pow_add, show (2 : Nat) ^ 53 = 9007199254740992 by decide]
  generalize 2 ^ k = p
  omega
theorem mval_one : mval 4607182418800017408 = U := by
  have h := mval_pow (c := 4607182418800017408) (by decide) (by decide)
  obtain ⟨c, hc⟩ : ∃ c, c = 4607182418800017408 := ⟨_, rfl⟩
  rw [← hc] at h ⊢
  obtain ⟨k, hk⟩ : ∃ k, k = c / 4503599627370496 - 1 := ⟨_, rfl⟩
  have he := e1_eq
  have hk2 : e1 = 52 + k := by omega
  rw [h, ← hk]
  unfold U
  rw [hk2, Nat.pow_add, show (2 : Nat) ^ 52 = 4503599627370496 by decide]
theorem mval_split {r : Nat} (hr : r < 9218868437227405312) : ∃ m k, mval r = m * 2 ^ k ∧ m < 9007199254740992 ∧ k ≤ 2045 ∧ (4841369599423283200 ≤ r → e1 ≤ k) := by
  have he := e1_eq
  unfold mval
  by_cases h : r < 4503599627370496
  · rw [if_pos h]; exact ⟨r, 0, by simp, by omega, by omega, by omega⟩
  · rw [if_neg h]; exact ⟨_, _, rfl, by omega, by omega, by omega⟩
theorem rest_exact {r : Nat} (hr : r < 9218868437227405312) : ∃ s, s < 9218868437227405312 ∧ mval s = mval r % U := by
  obtain ⟨m, k, hm, hb, hk, _⟩ := mval_split hr
  rw [hm]
  unfold U
  by_cases h : k ≤ e1
  · have e : 2 ^ e1 = 2 ^ (e1 - k) * 2 ^ k := by rw [← Nat.pow_add, Nat.sub_add_cancel h]
    rw [e, Nat.mul_mod_mul_right]
    exact exact_pow (Nat.lt_of_le_of_lt (Nat.mod_le _ _) hb) hk
  · have e : m * 2 ^ k = m * 2 ^ (k - e1) * 2 ^ e1 := by rw [Nat.mul_assoc, ← Nat.pow_add, Nat.sub_add_cancel (by omega)]
    rw [e, Nat.mul_mod_left]
    exact ⟨0, by decide, mval_zero⟩
theorem whole_big {f : Nat} (hl : f < 18446744073709551616) (hf : fin f = true) (h : 4841369599423283200 ≤ rung f) : wholeF f = f := by
  obtain ⟨m, k, hm, hb, hk, hu⟩ := mval_split (fin_rung hf)
  have hk2 := hu h
  rw [whole_eq hf]
  have e : mval (rung f) = m * 2 ^ (k - e1) * U := by rw [hm]; unfold U; rw [Nat.mul_assoc, ← Nat.pow_add, Nat.sub_add_cancel hk2]
  have e2 : wholeN (rung f) * U = mval (rung f) := by unfold wholeN; rw [e, rne_mul _ _ U_pos]
  rw [e2, rnd_mval (fin_rung hf), ← num_wd hl]
theorem whole_zero {f : Nat} (hl : f < 18446744073709551616) (hn : isN f = false) (h : rung f = 0) : wholeF f = f := by
  have hf : fin f = true := by unfold fin; rw [h]; rfl
  rw [whole_eq hf, h]
  have e : wholeN 0 = 0 := by unfold wholeN; rw [mval_zero]; have := rne_mul 0 U U_pos; rwa [Nat.zero_mul] at this
  rw [e, Nat.zero_mul]
  have e2 : rndN 0 = 0 := rfl
  rw [e2]
  have := num_wd hl
  rw [h] at this
  exact this.symm
theorem whole_inf {f : Nat} (hl : f < 18446744073709551616) (h : rung f = 9218868437227405312) : wholeF f = f := by
  unfold wholeF
  rw [notN_of h, read_inf h]
  show Ieee.double.word _ _ = f
  rw [word_eq, show Ieee.double.infRung = 9218868437227405312 by decide +kernel, ← h, ← num_wd hl]
/-- the whole part, in ones -/
def trN (r : Nat) : Nat := mval r / U
theorem trN_lt {r : Nat} (h : r < 4841369599423283200) : trN r < 4503599627370496 := by
  unfold trN
  have h2 := mval_lt h
  have h3 : mval 4841369599423283200 = 4503599627370496 * U := by
    have h := mval_pow (c := 4841369599423283200) (by decide) (by decide)
    obtain ⟨c, hc⟩ : ∃ c, c = 4841369599423283200 := ⟨_, rfl⟩
    rw [← hc] at h ⊢
    obtain ⟨k, hk⟩ : ∃ k, k = c / 4503599627370496 - 1 := ⟨_, rfl⟩
    have he := e1_eq
    have hke : k = e1 := by omega
    rw [h, ← hk, hke, U_def]
  rw [h3] at h2
  exact (Nat.div_lt_iff_lt_mul U_pos).2 h2
theorem whole_small {f : Nat} (hf : fin f = true) : wholeN (rung f) = trN (rung f) + (if U < 2 * (mval (rung f) % U) || (U == 2 * (mval (rung f) % U) && trN (rung f) % 2 == 1) then 1 else 0) := rfl
theorem rest_eq {r : Nat} (h : r < 4841369599423283200) : ∃ s, s < 9218868437227405312 ∧ fsub r (ofInt (trN r)) = s ∧ mval s = mval r % U := by
  obtain ⟨s, hs, he⟩ := rest_exact (r := r) (by omega)
  have hq := trN_lt h
  have hfin : fin r = true := by unfold fin; rw [rung_pos (by omega)]; simp; omega
  have hsv : sval r = (mval r : Int) := sval_pos (by omega)
  have hd := Nat.div_add_mod (mval r) U
  have h2 : sval r - sval (ofInt (trN r)) = ((mval r % U : Nat) : Int) := by
    rw [hsv, ofInt_sval (by omega)]
    unfold trN
    have e : ((mval r / U : Nat) : Int) * (U : Int) = ((U * (mval r / U) : Nat) : Int) := by rw [Int.natCast_mul, Int.mul_comm]
    rw [e]
    omega
  refine ⟨s, hs, ?_, he⟩
  rw [fsub_fin hfin (ofInt_fin (by omega)) (ofInt_lt _), h2, Int.natAbs_natCast, ← he, rnd_mval hs]
  have h4 : sgn r = false := sgn_rung (by omega)
  rw [h4]
  have h5 : ¬ ((mval s : Nat) : Int) < 0 := by omega
  rw [decide_eq_false h5]
  simp [wd]
theorem ofInt_succ {q : Nat} (h : q < 4503599627370496) : fadd (ofInt q) 4607182418800017408 = ofInt ((q + 1 : Nat) : Int) := by
  rw [fadd_fin (ofInt_fin (by omega)) (by decide +kernel), ofInt_sval (by omega), sval_one', mval_one, ofInt_eq ((q + 1 : Nat) : Int)]
  have e : ((q : Int) * (U : Int) + (U : Int)) = (((q + 1) * U : Nat) : Int) := by rw [Nat.add_mul, Nat.one_mul, Int.natCast_add, Int.natCast_mul]
  have hp : 0 < (q + 1) * U := Nat.mul_pos (by omega) U_pos
  rw [e, if_neg (by omega), decide_eq_false (by omega), decide_eq_false (by omega), Int.natAbs_natCast, Int.natAbs_natCast]
theorem signed_wd {g f : Nat} {r : Nat} (hl : f < 18446744073709551616) (hf : isN f = false) (hr : r ≤ 9218868437227405312) (hg : g = wd false r) : signed g f = wd (sgn f) r := by
  rw [hg]
  unfold signed minus
  rw [wd_notN hr, wd_rung hr, hf]
  unfold wd
  cases sgn f <;> simp <;> omega
theorem refWhole_end {f : Nat} (hl : f < 18446744073709551616) (hf : fin f = true) (h : rung f < 4841369599423283200) (up : Bool)
    (hu : up = (decide (U < 2 * (mval (rung f) % U)) || (U == 2 * (mval (rung f) % U) && trN (rung f) % 2 == 1))) :
    signed (if up then fadd (ofInt (trN (rung f))) 4607182418800017408 else ofInt (trN (rung f))) f = wholeF f := by
  have hq := trN_lt h
  have key : (if up then fadd (ofInt (trN (rung f))) 4607182418800017408 else ofInt (trN (rung f))) = wd false (rndN (wholeN (rung f) * U)) := by
    rw [whole_small hf, ← hu]
    cases up
    · simp only [Bool.false_eq_true, if_false]
      rw [ofInt_eq, decide_eq_false (by omega), Int.natAbs_natCast, Nat.add_zero]
    · simp only [if_true]
      rw [ofInt_succ hq, ofInt_eq, decide_eq_false (by omega), Int.natAbs_natCast]
  rw [key, whole_eq hf]
  exact signed_wd hl (fin_notN hf) (rndN_le _) rfl
theorem whole_plain {x f : Nat} (hx : Rep x f) (h : (fin f && !feq f 0) = false) : wholeF f = f := by
  cases hn : isN f
  · cases hf : fin f
    · exact whole_inf hx.flt (inf_of hn hf)
    · have : feq f 0 = true := by cases h2 : feq f 0 <;> simp [hf, h2] at h ⊢
      rw [feq_zero hn] at this
      exact whole_zero hx.flt hn (by simpa using this)
  · rw [hx.nan_of hn]; unfold wholeF; rw [if_pos isN_nanB]
set_option maxHeartbeats 4000000
section
variable {x y f g : Nat} (hx : Rep x f) (hy : Rep y g) (w : World)
theorem Rep.c2p52b : Rep 14064741636278059008 14064741636278059008 := Rep.self (by decide) (by decide +kernel)
include hx
theorem refWhole_c : Calls Tryd.prog 31 #[.float .f64 x] w (RetF (wholeF f) w) := by
  have q1 := hx.ge' Rep.c2p52
  have q2 := hx.le' Rep.c2p52b
  cases hp : (fin f && !feq f 0)
  · have hw := Lib.hid (whole_plain hx hp)
    clear q1 q2
    go_enter Tryd.func31, Tryd.ntmps31
    go_wp2_with (go_at_call 74; refine (plain_c hx _).mono ?_; rintro e w' ⟨n, rfl, rfl⟩)
    go_ret
    exact RetF.mk _ (by rw [hw.out]; exact hx)
  · have hf : fin f = true := by cases h : fin f <;> simp [h] at hp ⊢
    have hn := fin_notN hf
    have hl := hx.flt
    have hz : rung f ≠ 0 := by
      have : feq f 0 = false := by cases h : feq f 0 <;> simp [h] at hp ⊢
      rw [feq_zero hn] at this; simpa using this
    rw [fle_c hn (by decide +kernel) (by decide +kernel) (by decide +kernel), show rung 4841369599423283200 = 4841369599423283200 by decide +kernel] at q1
    rw [fle_cn hn (by decide +kernel) (by decide +kernel) (by decide +kernel), show rung 14064741636278059008 = 4841369599423283200 by decide +kernel] at q2
    by_cases hb : 4841369599423283200 ≤ rung f
    · have hw := Lib.hid (whole_big hl hf hb)
      rw [decide_eq_true hb, Bool.and_true] at q1 q2
      clear hf hn hz hb hl
      cases hs : sgn f
      all_goals
        rw [hs] at q1 q2
        simp only [Bool.not_true, Bool.not_false] at q1 q2
        go_enter Tryd.func31, Tryd.ntmps31
        go_wp2_with (go_at_call 74; refine (plain_c hx _).mono ?_; rintro e w' ⟨n, rfl, rfl⟩)
        go_ret
        exact RetF.mk _ (by rw [hw.out]; exact hx)
    · rw [decide_eq_false hb, Bool.and_false] at q1 q2
      have hr : rung f < 4841369599423283200 := by omega
      obtain ⟨rs, hrs, hsub, hval⟩ := rest_eq hr
      have hq := trN_lt hr
      have hend := fun up => Lib.hid (refWhole_end hl hf hr up)
      have hrr : Rep (rung f) (rung f) := Rep.self (by omega) (nrm_of_not (num_pos (by omega)))
      have hoi : Rep (ofInt (trN (rung f))) (ofInt (trN (rung f))) := Rep.self (ofInt_lt _) (nrm_of_not (ofInt_notN _))
      have hrsR : Rep rs rs := Rep.self (by omega) (nrm_of_not (num_pos (by omega)))
      have k1 : ∀ w, fres .sub (rung f) (ofInt (trN (rung f))) w = rs := fun w => by
        have h := hrr.sub hoi (w := w)
        rw [hsub] at h
        exact h.eq_of (num_pos (by omega))
      have k2 : ∀ w, fres .add (ofInt (trN (rung f))) 4607182418800017408 w = ofInt ((trN (rung f) : Int) + 1) := fun w => by
        have h := hoi.add Rep.cone (w := w)
        rw [ofInt_succ hq] at h
        exact h.eq_of (ofInt_notN _)
      have hoi2 : Rep (ofInt ((trN (rung f) : Int) + 1)) (ofInt ((trN (rung f) : Int) + 1)) := Rep.self (ofInt_lt _) (nrm_of_not (ofInt_notN _))
      have k3 : floatOfInt .f64 ((trN (rung f) : Nat) : Int) = ofInt (trN (rung f)) := rfl
      have htr : (Ieee.double.read (rung f)).toInt .zero = some ((trN (rung f) : Nat) : Int) := by
        rw [toInt_fin (by unfold fin; rw [rung_pos (by omega)]; simp; omega), sgn_rung (by omega), rung_pos (by omega)]; rfl
      have k4 : ∀ w : World, (convert 23 26 (.float .f64 (rung f))).run Tryd.prog w = .ok (.int .u64 ((trN (rung f) : Nat) : Int)) w := fun w =>
        run_convert_float_int w 23 26 .f64 .u64 _ _ (by kernel_rfl) (by kernel_rfl) (toIntVal_u64 htr (by omega) (by omega))
      have k5 := hrsR.gt' Rep.half
      have k6 := hrsR.eq' Rep.half
      have s1 : flt 4602678819172646912 rs = decide (U < 2 * (mval (rung f) % U)) := by
        rw [flt_eq, show isN 4602678819172646912 = false by decide +kernel, num_pos (show rs ≤ 9218868437227405312 by omega), sval_pos (by omega), sval_pos (by omega), hval]
        have := mval_half
        rw [Bool.eq_iff_iff]; simp; omega
      have s2 : feq rs 4602678819172646912 = (U == 2 * (mval (rung f) % U)) := by
        rw [feq_eq, num_pos (show rs ≤ 9218868437227405312 by omega), show isN 4602678819172646912 = false by decide +kernel, sval_pos (by omega), sval_pos (by omega), hval]
        have := mval_half
        rw [Bool.eq_iff_iff]; simp; omega
      rw [s1] at k5
      rw [s2] at k6
      have k7 : (((trN (rung f) : Nat) : Int) % 2 == 1) = (trN (rung f) % 2 == 1) := by
        rw [Bool.eq_iff_iff]; simp; omega
      have k8 := hx.lt' Rep.c0
      have s3 : flt f 0 = sgn f := by
        rw [flt_eq, hn, show isN 0 = false by decide +kernel, sval_zero]
        have := mval_pos (show 0 < rung f by omega)
        rcases sval_cases f with ⟨a, e⟩ | ⟨a, e⟩ <;> rw [e, a] <;> simp <;> omega
      rw [s3] at k8
      have hxf := hx.eq_of hn
      have hxe := Lib.hid (num_wd hl)
      have hxx := Lib.hid (xor_sign hl)
      have HX := Lib.hid hx
      have HF := Lib.hid hf
      clear hf hn hz hb s1 s2 s3 htr hsub hval hrr
      generalize hb1 : decide (U < 2 * (mval (rung f) % U)) = b1 at k5 hend
      generalize hb2 : (U == 2 * (mval (rung f) % U)) = b2 at k6 hend
      generalize hb3 : (trN (rung f) % 2 == 1) = b3 at k7 hend
      clear hb1 hb2 hb3
      cases hs : sgn f
      · rw [hs] at k8
        have e0 : f = rung f := by have h := hxe.out; rw [hs] at h; exact h
        have e1 : x = rung f := hxf.trans e0
        clear hxf hxe hxx
        have E0 := Lib.hid e0
        clear e0 hs hx
        subst e1
        have HS := Lib.hid (ofInt_succ hq)
        cases b1 <;> cases b2 <;> cases b3
        all_goals
          go_enter Tryd.func31, Tryd.ntmps31
          go_wp2_with (first | (go_at_call 74; refine (plain_c HX.out _).mono ?_; rintro e w' ⟨n, rfl, rfl⟩) | (go_at_call 72; refine (refSigned_c (by assumption) HX.out _).mono ?_; rintro e w' ⟨r, n, rfl, hr, rfl⟩))
          go_ret
          refine RetF.mk _ ?_
          first
            | (rw [← (hend true).out rfl, if_pos rfl, HS.out]; exact hr)
            | (rw [← (hend false).out rfl, if_neg (by simp)]; exact hr)
      · rw [hs] at k8
        have e1 : x ^^^ 9223372036854775808 = rung f := by
          have h := hxx.out
          rw [hs] at h
          rw [hxf]; exact h
        clear hxf hxe hxx
        clear hs hx
        have HS := Lib.hid (ofInt_succ hq)
        cases b1 <;> cases b2 <;> cases b3
        all_goals
          go_enter Tryd.func31, Tryd.ntmps31
          go_wp2_with (first | (go_at_call 74; refine (plain_c HX.out _).mono ?_; rintro e w' ⟨n, rfl, rfl⟩) | (go_at_call 72; refine (refSigned_c (by assumption) HX.out _).mono ?_; rintro e w' ⟨r, n, rfl, hr, rfl⟩))
          go_ret
          refine RetF.mk _ ?_
          first
            | (rw [← (hend true).out rfl, if_pos rfl, HS.out]; exact hr)
            | (rw [← (hend false).out rfl, if_neg (by simp)]; exact hr)
end
end Go.Proofs.YtndknkdfbjfjcaaDoor
