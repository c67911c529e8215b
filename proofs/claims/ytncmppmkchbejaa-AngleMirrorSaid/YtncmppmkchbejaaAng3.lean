/- Quarters, sines and cosines of any float: the program's and the document's come to one. No condition. -/
import Derived.Test.YtncmppmkchbejaaAng2
namespace Go.Proofs.Ytncmppmkchbejaa
open Go.RowKit
set_option linter.unusedVariables false
set_option linter.unusedSimpArgs false
set_option maxRecDepth 100000
set_option maxHeartbeats 4000000

/-- at most 2^k -/
structure Bd (f k : Nat) : Prop where
  lt : f < 18446744073709551616
  fin : fin f = true
  le : mval (rung f) ≤ 2 ^ k * U
theorem Bd.mono {f i j : Nat} (h : Bd f i) (hij : i ≤ j) : Bd f j := ⟨h.lt, h.fin, Nat.le_trans h.le (Nat.mul_le_mul_right _ (Nat.pow_le_pow_right (by decide) hij))⟩
theorem Bd.notN {f k : Nat} (h : Bd f k) : isN f = false := fin_notN h.fin
theorem rnd_pow {k : Nat} (hk : k ≤ 900) : rndN (2 ^ k * U) < 9218868437227405312 ∧ mval (rndN (2 ^ k * U)) = 2 ^ k * U := by
  have h := rnd_exact (m := 1) (k := k + e1) (by decide) (by rw [e1_eq]; omega)
  rw [Nat.one_mul, Nat.pow_add] at h
  exact h
theorem Bd.of {s : Bool} {n k : Nat} (hk : k ≤ 900) (h : n ≤ 2 ^ k * U) : Bd (wd s (rndN n)) k := by
  have h2 := rndN_mono h
  obtain ⟨h3, h4⟩ := rnd_pow hk
  refine ⟨wd_lt (rndN_le _), ?_, ?_⟩
  · unfold Proofs.Ytncmppmkchbejaa.fin; rw [wd_rung (rndN_le _)]; simp; omega
  · rw [wd_rung (rndN_le _)]
    have := mval_le_iff.2 h2
    omega
theorem Bd.mul {f g i j : Nat} (h : Bd f i) (k : Bd g j) (hk : i + j ≤ 900) : Bd (fmul f g) (i + j) := by
  rw [fmul_fin h.fin k.fin]
  have e : rndQ (mval (rung f) * mval (rung g)) 1074 ≤ rndN (2 ^ (i + j) * U) := by
    rw [← rndQ_U, ← e1_eq]
    apply rndQ_mono
    have := Nat.mul_le_mul h.le k.le
    rw [Nat.pow_add]
    have e2 : 2 ^ i * U * (2 ^ j * U) = 2 ^ i * 2 ^ j * U * U := by
      generalize 2 ^ i = a
      generalize 2 ^ j = b
      ac_rfl
    omega
  obtain ⟨h3, h4⟩ := rnd_pow hk
  have hle := rndQ_le (mval (rung f) * mval (rung g)) 1074
  generalize rndQ (mval (rung f) * mval (rung g)) 1074 = r at *
  refine ⟨wd_lt hle, ?_, ?_⟩
  · unfold Proofs.Ytncmppmkchbejaa.fin; rw [wd_rung hle]; simp; omega
  · rw [wd_rung hle]
    have := mval_le_iff.2 e
    omega
theorem Bd.abs {f k : Nat} (h : Bd f k) : (sval f).natAbs ≤ 2 ^ k * U := by
  have := h.le
  rcases sval_cases f with ⟨_, e⟩ | ⟨_, e⟩ <;> rw [e] <;> omega
theorem Bd.add {f g k : Nat} (h : Bd f k) (h2 : Bd g k) (hk : k + 1 ≤ 900) : Bd (fadd f g) (k + 1) := by
  rw [fadd_fin h.fin h2.fin]
  apply Bd.of hk
  have a := h.abs
  have b := h2.abs
  have e : 2 ^ (k + 1) * U = 2 ^ k * U + 2 ^ k * U := by rw [Nat.pow_succ, Nat.mul_right_comm, Nat.mul_two]
  omega
theorem Bd.sub {f g k : Nat} (h : Bd f k) (h2 : Bd g k) (hk : k + 1 ≤ 900) : Bd (fsub f g) (k + 1) := by
  rw [fsub_fin h.fin h2.fin h2.lt]
  apply Bd.of hk
  have a := h.abs
  have b := h2.abs
  have e : 2 ^ (k + 1) * U = 2 ^ k * U + 2 ^ k * U := by rw [Nat.pow_succ, Nat.mul_right_comm, Nat.mul_two]
  omega
theorem Bd.whole {f k : Nat} (h : Bd f k) (hk : k ≤ 52) : Bd (wholeF f) k ∧ wholeN (rung f) ≤ 2 ^ k := by
  have hN : wholeN (rung f) ≤ 2 ^ k := rne_le_of U_pos h.le
  refine ⟨?_, hN⟩
  rw [whole_eq h.fin]
  exact Bd.of (by omega) (Nat.mul_le_mul_right _ hN)
theorem Bd.const {c k r : Nat} (hc : c < 18446744073709551616) (hf : Proofs.Ytncmppmkchbejaa.fin c = true) (h : mval (rung c) ≤ mval (4503599627370496 * (1023 + k))) (hk : k ≤ 900) : Bd c k := by
  refine ⟨hc, hf, Nat.le_trans h ?_⟩
  have e : mval (4503599627370496 * (1023 + k)) = 4503599627370496 * 2 ^ (1022 + k) := by
    unfold mval
    rw [if_neg (by omega), Nat.mul_mod_right, Nat.mul_div_cancel_left _ (by decide), show 1023 + k - 1 = 1022 + k by omega]
  rw [e]
  have e2 : 2 ^ k * U = 4503599627370496 * 2 ^ (1022 + k) := by
    unfold U
    rw [← Nat.pow_add, show k + e1 = 52 + (1022 + k) by rw [e1_eq]; omega, Nat.pow_add 2 52, show (2 : Nat) ^ 52 = 4503599627370496 by decide]
  omega
theorem Bd.const' {c k : Nat} (hc : c < 18446744073709551616) (hf : Proofs.Ytncmppmkchbejaa.fin c = true) (h : rung c ≤ 4503599627370496 * (1023 + k)) (hk : k ≤ 900) : Bd c k := Bd.const (r := 0) hc hf (mval_le_iff.2 h) hk

def fit (f : Nat) : Bool := within f 4697254411347427328
theorem fit_bd {f : Nat} (hl : f < 18446744073709551616) (h : fit f = true) : Bd f 20 := by
  unfold fit within at h
  rw [fle_eq, isN_abs, show isN 4697254411347427328 = false by decide +kernel] at h
  cases hn : isN f
  · rw [hn, sval_abs hn, show sval 4697254411347427328 = ((mval 4697254411347427328 : Nat) : Int) from sval_pos (by decide)] at h
    simp only [Bool.not_false, Bool.true_and, decide_eq_true_eq] at h
    have h2 : mval (rung f) ≤ mval 4697254411347427328 := by omega
    have h3 := mval_le_iff.1 h2
    exact Bd.const' hl (by unfold Proofs.Ytncmppmkchbejaa.fin; simp; omega) (by omega) (by decide)
  · rw [hn] at h; simp at h
theorem fit_nan {f : Nat} (h : isN f = true) : fit f = false := by unfold fit within; rw [fle_eq, isN_abs, h]; rfl
def wInt (g : Nat) : Int := if sgn g then -((trN (rung g) : Nat) : Int) else ((trN (rung g) : Nat) : Int)
theorem wInt_bd {g k : Nat} (h : Bd g k) : (wInt g).natAbs ≤ 2 ^ k := by
  have h2 : trN (rung g) ≤ 2 ^ k := by
    unfold trN
    have := Nat.div_le_div_right (c := U) h.le
    rwa [Nat.mul_div_cancel _ U_pos] at this
  unfold wInt
  split <;> omega
theorem toInt_wInt {g : Nat} (h : fin g = true) : (Ieee.double.read g).toInt .zero = some (wInt g) := toInt_fin h
theorem bits_and3 (n : Int) : bits .and .i64 n 3 = n % 4 := by
  have h3 : (BitVec.ofInt 64 3).toNat = 2 ^ 2 - 1 := by decide
  have key : (BitVec.ofInt 64 n &&& BitVec.ofInt 64 3).toNat = (n % ((2 ^ 64 : Nat) : Int)).toNat % 2 ^ 2 := by
    rw [BitVec.toNat_and, BitVec.toNat_ofInt, h3, Nat.and_two_pow_sub_one_eq_mod]
  show IntKind.i64.wrap ((BitVec.ofInt 64 n &&& BitVec.ofInt 64 3).toNat : Nat) = n % 4
  rw [key, IntKind.wrap_i64]
  omega
def quarterM (f : Nat) : Nat := wholeF (fmul f 4603909380684499075)
def quarterX (f : Nat) : Nat := if fit f then (if feq (quarterM f) 0 then f else lessF f (quarterM f) 4607182418800017408) else nanB
def quarterN (f : Nat) : Int := if fit f then (if feq (quarterM f) 0 then 0 else wInt (quarterM f) % 4) else 0
theorem quarterM_bd {f : Nat} (hl : f < 18446744073709551616) (h : fit f = true) : Bd (quarterM f) 20 :=
  (((fit_bd hl h).mul (Bd.const' (k := 0) (by decide) (by decide +kernel) (by decide +kernel) (by decide)) (by decide)).whole (by decide)).1
theorem Rep.cq : Rep 4603909380684499075 4603909380684499075 := Rep.self (by decide) (by decide +kernel)
theorem Rep.c20 : Rep 4697254411347427328 4697254411347427328 := Rep.self (by decide) (by decide +kernel)
theorem tmod4 (n : Int) : (if n.tmod 4 < 0 then n.tmod 4 + 4 else n.tmod 4) = n % 4 := by
  have h := Int.tmod_eq_emod (a := n) (b := 4)
  split at h <;> split <;> omega
theorem tmod_bd (n : Int) : -4 < n.tmod 4 ∧ n.tmod 4 < 4 := by
  have h := Int.tmod_eq_emod (a := n) (b := 4)
  split at h <;> omega
section
variable {x y f g : Nat} (hx : Rep x f) (hy : Rep y g) (w : World)
include hx
theorem fit_c : Calls Try.prog 27 #[.float .f64 x] w (RetB (fit f) w) := by
  go_enter Try.func27, Try.ntmps27
  go_wp2_with (go_at_call 46; refine (within_c hx Rep.c20 _).mono ?_; rintro e w' ⟨n, rfl, rfl⟩)
  go_ret
  exact RetB.mk _ rfl
theorem refFit_c : Calls Try.prog 23 #[.float .f64 x] w (RetB (fit f) w) := by
  have q := Lib.hid (hx.abs.le' Rep.c20)
  go_enter Try.func23, Try.ntmps23
  go_wp2
  go_ret
  exact RetB.mk0 q.out
theorem quarter_c : Calls Try.prog 9 #[.float .f64 x] w (RetGI (quarterX f) (quarterN f) w) := by
  cases hf : fit f
  · have HF := Lib.hid hf
    go_enter Try.func9, Try.ntmps9
    go_wp2_with (first | (go_at_call 27; refine (fit_c hx _).mono ?_; rintro e w' ⟨n, rfl, rfl⟩) | (go_at_call 28; refine (nan_c _).mono ?_; rintro e w' ⟨r, n, rfl, hr, rfl⟩))
    go_ret2
    exact ⟨_, by unfold quarterN; rw [if_neg (by rw [HF.out]; simp)]; rfl, by unfold quarterX; rw [if_neg (by rw [HF.out]; simp)]; exact hr, grown_drewN _ _⟩
  · have HF := Lib.hid hf
    have HB := Lib.hid (quarterM_bd hx.flt hf)
    obtain ⟨m, hm⟩ : ∃ m, m = quarterM f := ⟨_, rfl⟩
    have HM := Lib.hid hm
    rw [← hm] at HB
    clear hm
    have hmR : Rep m m := Rep.self HB.out.lt (nrm_of_not HB.out.notN)
    have q1 := hmR.eq' Rep.c0
    have hb := wInt_bd HB.out
    rw [show (2 : Nat) ^ 20 = 1048576 by decide] at hb
    have k4 : ∀ w : World, (convert 22 3 (.float .f64 m)).run Try.prog w = .ok (.int .i64 (wInt m)) w := fun w =>
      run_convert_float_int w 22 3 .f64 .i64 _ _ (by kernel_rfl) (by kernel_rfl) (toIntVal_i64 (toInt_wInt HB.out.fin) (by omega) (by omega))
    have k5 := bits_and3 (wInt m)
    clear hb
    cases hq : feq m 0
    all_goals
      have HQ := Lib.hid hq
      go_enter Try.func9, Try.ntmps9
      go_wp2_with (first | (go_at_call 27; refine (fit_c hx _).mono ?_; rintro e w' ⟨n, rfl, rfl⟩) | (go_at_call 29; refine (whole_c (hx.mul Rep.cq) _).mono ?_; rintro e w' ⟨r, n, rfl, hr, rfl⟩; obtain rfl : r = m := (hr.eq_of (by have := HB.out.notN; rw [HM.out] at this; exact this)).trans HM.out.symm) | (go_at_call 31; refine (less_c hx hmR Rep.cone _).mono ?_; rintro e w' ⟨r2, rfl, hr2, hg⟩) | go_in)
      go_ret2
    · exact ⟨_, by unfold quarterN; rw [if_pos HF.out, ← HM.out, if_neg (by rw [HQ.out]; simp)]; rfl, by unfold quarterX; rw [if_pos HF.out, ← HM.out, if_neg (by rw [HQ.out]; simp)]; exact hr2, hg⟩
    · exact ⟨_, by unfold quarterN; rw [if_pos HF.out, ← HM.out, if_pos HQ.out]; rfl, by unfold quarterX; rw [if_pos HF.out, ← HM.out, if_pos HQ.out]; exact hx, grown_drewN _ _⟩
theorem refQuarter_c : Calls Try.prog 10 #[.float .f64 x] w (RetFI (quarterX f) (quarterN f) w) := by
  cases hf : fit f
  · have HF := Lib.hid hf
    go_enter Try.func10, Try.ntmps10
    go_wp2_with (first | (go_at_call 23; refine (refFit_c hx _).mono ?_; rintro e w' ⟨n, rfl, rfl⟩) | go_in)
    go_ret2
    exact RetFI.mk _ (by unfold quarterX; rw [if_neg (by rw [HF.out]; simp)]; exact Rep.nanC) (by unfold quarterN; rw [if_neg (by rw [HF.out]; simp)])
  · have HF := Lib.hid hf
    have HB := Lib.hid (quarterM_bd hx.flt hf)
    obtain ⟨m, hm⟩ : ∃ m, m = quarterM f := ⟨_, rfl⟩
    have HM := Lib.hid hm
    rw [← hm] at HB
    clear hm
    have hmR : Rep m m := Rep.self HB.out.lt (nrm_of_not HB.out.notN)
    have q1 := hmR.eq' Rep.c0
    have hb := wInt_bd HB.out
    rw [show (2 : Nat) ^ 20 = 1048576 by decide] at hb
    have k4 : ∀ w : World, (convert 22 3 (.float .f64 m)).run Try.prog w = .ok (.int .i64 (wInt m)) w := fun w =>
      run_convert_float_int w 22 3 .f64 .i64 _ _ (by kernel_rfl) (by kernel_rfl) (toIntVal_i64 (toInt_wInt HB.out.fin) (by omega) (by omega))
    have hb1 : -1048576 ≤ wInt m := by omega
    have hb2 : wInt m ≤ 1048576 := by omega
    have ht := Lib.hid (tmod4 (wInt m))
    obtain ⟨ht1, ht2⟩ := tmod_bd (wInt m)
    clear hb
    cases hq : feq m 0
    all_goals
      have HQ := Lib.hid hq
      go_enter Try.func10, Try.ntmps10
      go_wp2_with (first | (go_at_call 23; refine (refFit_c hx _).mono ?_; rintro e w' ⟨n, rfl, rfl⟩) | (go_at_call 32; refine (refWhole_c (hx.mul Rep.cq) _).mono ?_; rintro e w' ⟨r, n, rfl, hr, rfl⟩; obtain rfl : r = m := (hr.eq_of (by have := HB.out.notN; rw [HM.out] at this; exact this)).trans HM.out.symm) | (go_at_call 34; refine (refLess_c hx hmR Rep.cone _).mono ?_; rintro e w' ⟨r2, n, rfl, hr2, rfl⟩) | go_in)
      all_goals go_ret2
    · rename_i hneg
      exact RetFI.mk _ (by unfold quarterX; rw [if_pos HF.out, ← HM.out, if_neg (by rw [HQ.out]; simp)]; exact hr2) (by unfold quarterN; rw [if_pos HF.out, ← HM.out, if_neg (by rw [HQ.out]; simp), ← ht.out, if_pos (by assumption)])
    · exact RetFI.mk _ (by unfold quarterX; rw [if_pos HF.out, ← HM.out, if_neg (by rw [HQ.out]; simp)]; exact hr2) (by unfold quarterN; rw [if_pos HF.out, ← HM.out, if_neg (by rw [HQ.out]; simp), ← ht.out, if_neg (by omega)])
    · exact RetFI.mk _ (by unfold quarterX; rw [if_pos HF.out, ← HM.out, if_pos HQ.out]; exact hx) (by unfold quarterN; rw [if_pos HF.out, ← HM.out, if_pos HQ.out])
end
end Go.Proofs.Ytncmppmkchbejaa
