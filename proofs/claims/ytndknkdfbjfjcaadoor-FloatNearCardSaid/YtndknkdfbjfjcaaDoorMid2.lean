/- What the parts of floats, powers of two times floats, neighbours, sums of two with their loss come to. No condition. -/
import Derived.Test.YtndknkdfbjfjcaaDoorMid
namespace Go.Proofs.YtndknkdfbjfjcaaDoor
set_option linter.unusedVariables false
set_option maxRecDepth 100000

def upF (f : Nat) : Nat := if isInf f 1 then f else nextF f infP
def downF (f : Nat) : Nat := if isInf f (-1) then f else nextF f infN
def lostF (f g : Nat) : Nat := if !fin (fadd f g) then 0 else if flt (fabs f) (fabs g) then fadd (fsub f (fsub (fadd f g) g)) 0 else fadd (fsub g (fsub (fadd f g) f)) 0
def normF (f : Nat) : Nat := if flt (fabs f) 4503599627370496 then fmul f 4841369599423283200 else f
def normE (f : Nat) : Int := if flt (fabs f) 4503599627370496 then -52 else 0
def fracB (g : Nat) : Nat := g / 9223372036854775808 * 9223372036854775808 + 4602678819172646912 + g % 4503599627370496
def partF (f : Nat) : Nat := if feq f 0 || (isInf f 0 || isN f) then f else nrm (fracB (normF f))
def partE (f : Nat) : Int := if feq f 0 || (isInf f 0 || isN f) then 0 else normE f + (normF f / 4503599627370496 % 2048 : Nat) - 1022
theorem exp_bits (r : Nat) (h : r < 18446744073709551616) : bits .and .u64 ((r : Int) / 4503599627370496) 2047 = ((r / 4503599627370496 % 2048 : Nat) : Int) := by
  have e : ((r : Int) / 4503599627370496) = ((r / 4503599627370496 : Nat) : Int) := by omega
  rw [e]
  have := u64_and_nat (r / 4503599627370496) 2047 (by omega) (by omega)
  rw [show (2047 : Nat) = 2 ^ 11 - 1 from rfl, Nat.and_two_pow_sub_one_eq_mod] at this
  exact this
theorem clr_nat (r : Nat) (h : r < 18446744073709551616) : r &&& (18446744073709551615 - 9218868437227405312) = r / 9223372036854775808 * 9223372036854775808 + r % 4503599627370496 := by
  have e : 18446744073709551615 - 9218868437227405312 = 2 ^ 63 ||| (2 ^ 52 - 1) := by decide +kernel
  rw [e, Nat.and_or_distrib_left, nat_bit, Nat.and_two_pow_sub_one_eq_mod]
  have h1 : r / 2 ^ 63 % 2 = r / 9223372036854775808 := by simp only [Nat.reducePow]; omega
  rw [h1]
  exact nat_join 63 (r / 9223372036854775808 * 2 ^ 63) (r % 2 ^ 52) (by simp only [Nat.reducePow]; omega) (by simp only [Nat.reducePow]; omega)
theorem clr_bits (r : Nat) (h : r < 18446744073709551616) : bits .andNot .u64 (r : Int) 9218868437227405312 = ((r / 9223372036854775808 * 9223372036854775808 + r % 4503599627370496 : Nat) : Int) := by
  have := u64_andNot_nat r 9218868437227405312 h (by omega)
  rw [clr_nat r h] at this
  exact this
theorem frac_bits (r : Nat) (h : r < 18446744073709551616) : (bits .or .u64 (bits .andNot .u64 (r : Int) 9218868437227405312) 4602678819172646912).toNat = fracB r := by
  rw [clr_bits r h]
  have := u64_or_nat (r / 9223372036854775808 * 9223372036854775808 + r % 4503599627370496) 4602678819172646912 (by omega) (by omega)
  have e : (r / 9223372036854775808 * 9223372036854775808 + r % 4503599627370496) ||| 4602678819172646912 = fracB r := by
    unfold fracB
    rw [← nat_join 63 (r / 9223372036854775808 * 9223372036854775808) (r % 4503599627370496) (by simp only [Nat.reducePow]; omega) (by simp only [Nat.reducePow]; omega)]
    rw [Nat.or_assoc, Nat.or_comm (r % 4503599627370496), nat_join 52 4602678819172646912 (r % 4503599627370496) (by decide) (by simp only [Nat.reducePow]; omega)]
    rw [nat_join 63 (r / 9223372036854775808 * 9223372036854775808) (4602678819172646912 + r % 4503599627370496) (by simp only [Nat.reducePow]; omega) (by simp only [Nat.reducePow]; omega)]
    omega
  rw [e] at this
  generalize bits .or .u64 ((r / 9223372036854775808 * 9223372036854775808 + r % 4503599627370496 : Nat) : Int) 4602678819172646912 = b at this ⊢
  first | exact toNat_of this | (have t2 : b = ((fracB r : Nat) : Int) := this; exact toNat_of t2)
theorem fracB_notN (r : Nat) (h : r < 18446744073709551616) : isN (fracB r) = false := by
  rw [isN_false_iff]; unfold fracB; omega
theorem fracB_lt (r : Nat) (h : r < 18446744073709551616) : fracB r < 18446744073709551616 := by unfold fracB; omega
theorem fracB_of_rep {r f : Nat} (h : Rep r f) (hn : isN f = false) : Rep (fracB r) (nrm (fracB f)) := by
  rw [h.eq_of hn]; exact ⟨fracB_lt _ h.flt, rfl⟩
theorem partE_walk (r : Nat) (e : Int) (he : -52 ≤ e ∧ e ≤ 0) : RowKit.wrap64 (e + RowKit.wrap64 (RowKit.wrap64 (RowKit.wrap64 ((r / 4503599627370496 % 2048 : Nat) : Int) - 1023) + 1)) = e + (r / 4503599627370496 % 2048 : Nat) - 1022 := by
  have : r / 4503599627370496 % 2048 < 2048 := Nat.mod_lt _ (by decide)
  generalize r / 4503599627370496 % 2048 = m at *
  unfold RowKit.wrap64
  omega
theorem normE_bd (f : Nat) : -52 ≤ normE f ∧ normE f ≤ 0 := by unfold normE; split <;> omega
theorem fin_notN {f : Nat} (h : fin f = true) : isN f = false := by
  unfold fin at h; rw [notN_iff]; simp at h; omega
theorem fin_rung {f : Nat} (h : fin f = true) : rung f < 9218868437227405312 := by unfold fin at h; simpa using h
theorem isN_fmul {f g : Nat} (hf : fin f = true) (hg : fin g = true) : isN (fmul f g) = false := by
  obtain ⟨m, k, hr, hm, _⟩ := read_number (fin_rung hf)
  obtain ⟨n, j, hs, hn, _⟩ := read_number (fin_rung hg)
  rw [mul_def, hr, hs]
  exact write_notN (.number (sgn f ^^ sgn g) (m * n) (-1074 + (k : Int) + (-1074 + (j : Int)))) rfl
theorem sval_small {f c : Nat} (h : flt (fabs f) c = true) (hc : sgn c = false) (hcr : rung c ≤ 9218868437227405312) : rung f < rung c ∧ isN f = false := by
  rw [flt_eq, isN_abs] at h
  simp at h
  obtain ⟨⟨h1, h2⟩, h3⟩ := h
  rw [sval_abs h1] at h3
  have e : sval c = ((mval (rung c) : Nat) : Int) := by unfold sval; rw [hc]; rfl
  rw [e] at h3
  exact ⟨mval_lt_iff.1 (by omega), h1⟩
theorem normF_notN {f : Nat} (h : isN f = false) : isN (normF f) = false := by
  unfold normF
  split
  · rename_i hs
    have := (sval_small hs (by decide +kernel) (by decide +kernel)).1
    exact isN_fmul (by unfold fin; simp; exact Nat.lt_of_lt_of_le this (by decide +kernel)) (by decide +kernel)
  · exact h
def expOf (f : Nat) (n : Int) : Int := n + normE f + (normF f / 4503599627370496 % 2048 : Nat) - 1023
def scaleF (f : Nat) (n : Int) : Nat :=
  if feq f 0 || (isInf f 0 || isN f) then f
  else if expOf f n < -1075 then copyF 0 (normF f)
  else if 1023 < expOf f n then (if flt (normF f) 0 then infN else infP)
  else if expOf f n < -1022 then fmul 4368491638549381120 (normF f / 9223372036854775808 * 9223372036854775808 + (expOf f n + 1076).toNat * 4503599627370496 + normF f % 4503599627370496)
  else fmul 4607182418800017408 (normF f / 9223372036854775808 * 9223372036854775808 + (expOf f n + 1023).toNat * 4503599627370496 + normF f % 4503599627370496)
theorem Rep.normF_lt {x f : Nat} (hx : Rep x f) : normF f < 18446744073709551616 := by
  unfold normF
  split
  · exact canon_map_lt _
  · exact hx.flt
theorem and2047_i64 (r : Nat) (h : r < 18446744073709551616) : bits .and .i64 (RowKit.wrap64 ((r : Int) / 4503599627370496)) 2047 = ((r / 4503599627370496 % 2048 : Nat) : Int) := by
  have e : RowKit.wrap64 ((r : Int) / 4503599627370496) = ((r / 4503599627370496 : Nat) : Int) := by unfold RowKit.wrap64; omega
  rw [e]
  show IntKind.i64.wrap ((BitVec.ofInt 64 ((r / 4503599627370496 : Nat) : Int) &&& BitVec.ofInt 64 (2047 : Int)).toNat : Int) = _
  rw [BitVec.toNat_and, BitVec.ofInt_natCast, BitVec.toNat_ofNat, show (BitVec.ofInt 64 2047).toNat = 2 ^ 11 - 1 from by decide +kernel, Nat.and_two_pow_sub_one_eq_mod, Nat.mod_eq_of_lt (a := r / 4503599627370496) (by omega)]
  have h2 : r / 4503599627370496 % 2 ^ 11 < 2048 := Nat.mod_lt _ (by decide)
  rw [show (2048 : Nat) = 2 ^ 11 from rfl]
  generalize r / 4503599627370496 % 2 ^ 11 = m at *
  simp only [IntKind.wrap, IntKind.bits, IntKind.signed]
  simp
  omega
theorem scale_bits (g : Nat) (e : Int) (h : g < 18446744073709551616) (h0 : 0 ≤ e) (h1 : e < 2048) : (bits .or .u64 (bits .andNot .u64 (g : Int) 9218868437227405312) (e * 4503599627370496)).toNat = g / 9223372036854775808 * 9223372036854775808 + e.toNat * 4503599627370496 + g % 4503599627370496 := by
  obtain ⟨k, rfl⟩ := Int.eq_ofNat_of_zero_le h0
  rw [clr_bits g h, Int.toNat_natCast]
  have hk : k < 2048 := by omega
  have := u64_or_nat (g / 9223372036854775808 * 9223372036854775808 + g % 4503599627370496) (k * 4503599627370496) (by omega) (by omega)
  have e : (g / 9223372036854775808 * 9223372036854775808 + g % 4503599627370496) ||| k * 4503599627370496 = g / 9223372036854775808 * 9223372036854775808 + k * 4503599627370496 + g % 4503599627370496 := by
    rw [← nat_join 63 (g / 9223372036854775808 * 9223372036854775808) (g % 4503599627370496) (by simp only [Nat.reducePow]; omega) (by simp only [Nat.reducePow]; omega)]
    rw [Nat.or_assoc, Nat.or_comm (g % 4503599627370496), nat_join 52 (k * 4503599627370496) (g % 4503599627370496) (by simp only [Nat.reducePow]; omega) (by simp only [Nat.reducePow]; omega)]
    rw [nat_join 63 (g / 9223372036854775808 * 9223372036854775808) (k * 4503599627370496 + g % 4503599627370496) (by simp only [Nat.reducePow]; omega) (by simp only [Nat.reducePow]; omega)]
    omega
  rw [e, Int.natCast_mul] at this
  exact toNat_of this
theorem scale_rep {r : Nat} (g : Nat) (e : Int) (h : g < 18446744073709551616) (h0 : 0 ≤ e) (h1 : e < 2047) : Rep (bits .or .u64 (bits .andNot .u64 (g : Int) 9218868437227405312) (e * 4503599627370496)).toNat (g / 9223372036854775808 * 9223372036854775808 + e.toNat * 4503599627370496 + g % 4503599627370496) := by
  rw [scale_bits g e h h0 (by omega)]
  refine Rep.self (by omega) (nrm_of_not ?_)
  rw [isN_false_iff]
  omega
theorem Rep.cone : Rep 4607182418800017408 4607182418800017408 := Rep.self (by decide) (by decide +kernel)
theorem Rep.ctiny53 : Rep 4368491638549381120 4368491638549381120 := Rep.self (by decide) (by decide +kernel)
theorem exp_walk (f : Nat) (n : Int) (h1 : -100000 ≤ n) (h2 : n ≤ 100000) (hl : normF f < 18446744073709551616) : RowKit.wrap64 (RowKit.wrap64 (n + normE f) + RowKit.wrap64 (bits .and .i64 (RowKit.wrap64 ((normF f : Int) / 4503599627370496)) 2047 - 1023)) = expOf f n := by
  rw [and2047_i64 _ hl]
  have := normE_bd f
  unfold expOf
  have : normF f / 4503599627370496 % 2048 < 2048 := Nat.mod_lt _ (by decide)
  generalize normF f / 4503599627370496 % 2048 = m at *
  unfold RowKit.wrap64
  omega
theorem expOf_bd (f : Nat) (n : Int) (h1 : -100000 ≤ n) (h2 : n ≤ 100000) : -102000 ≤ expOf f n ∧ expOf f n ≤ 102000 := by
  have := normE_bd f
  unfold expOf
  have : normF f / 4503599627370496 % 2048 < 2048 := Nat.mod_lt _ (by decide)
  omega
theorem Rep.ctiny : Rep 4503599627370496 4503599627370496 := Rep.self (by decide) (by decide +kernel)
theorem Rep.c2p52 : Rep 4841369599423283200 4841369599423283200 := Rep.self (by decide) (by decide +kernel)
section
variable {x y f g : Nat} (hx : Rep x f) (hy : Rep y g) (w : World)
include hx
theorem up_c : Calls Tryd.prog 24 #[.float .f64 x] w (RetF (upF f) w) := by
  cases h : isInf f 1
  all_goals
    have h' := Lib.hid h
    go_enter Tryd.func24, Tryd.ntmps24
    go_wp2_with (first | (go_at_call 69; refine (isInf_c (by assumption) _ _).mono ?_; rintro e w' ⟨n, rfl, rfl⟩) | (go_at_call 101; refine (isNaN_c (by assumption) _).mono ?_; rintro e w' ⟨n, rfl, rfl⟩) | (go_at_call 102; refine (nan_c _).mono ?_; rintro e w' ⟨r, n, rfl, hr, rfl⟩) | (go_at_call 62; refine (inf_c _ _).mono ?_; rintro e w' ⟨r, n, rfl, hr, rfl⟩) | (go_at_call 75; refine (next_c (by assumption) (by assumption) _).mono ?_; rintro e w' ⟨r, n, rfl, hr, rfl⟩))
    go_ret
  · exact RetF.mk _ (by rw [show upF f = nextF f infP by simp [upF, h'.out]]; assumption)
  · exact RetF.mk _ (by rw [show upF f = f by simp [upF, h'.out]]; assumption)
theorem down_c : Calls Tryd.prog 26 #[.float .f64 x] w (RetF (downF f) w) := by
  cases h : isInf f (-1)
  all_goals
    have h' := Lib.hid h
    go_enter Tryd.func26, Tryd.ntmps26
    go_wp2_with (first | (go_at_call 69; refine (isInf_c (by assumption) _ _).mono ?_; rintro e w' ⟨n, rfl, rfl⟩) | (go_at_call 101; refine (isNaN_c (by assumption) _).mono ?_; rintro e w' ⟨n, rfl, rfl⟩) | (go_at_call 102; refine (nan_c _).mono ?_; rintro e w' ⟨r, n, rfl, hr, rfl⟩) | (go_at_call 62; refine (inf_c _ _).mono ?_; rintro e w' ⟨r, n, rfl, hr, rfl⟩) | (go_at_call 75; refine (next_c (by assumption) (by assumption) _).mono ?_; rintro e w' ⟨r, n, rfl, hr, rfl⟩))
    go_ret
  · exact RetF.mk _ (by rw [show downF f = nextF f infN by simp [downF, h'.out]]; assumption)
  · exact RetF.mk _ (by rw [show downF f = f by simp [downF, h'.out]]; assumption)
theorem norm_c : Calls Tryd.prog 140 #[.float .f64 x] w (RetFI (normF f) (normE f) w) := by
  have h1 := hx.abs.lt' Rep.ctiny
  cases h : flt (fabs f) 4503599627370496
  all_goals
    have h' := Lib.hid h
    go_enter Tryd.func140, Tryd.ntmps140
    go_wp2
    go_ret2
  · exact RetFI.mk0 (by rw [show normF f = f by simp [normF, h'.out]]; assumption) (by simp [normE, h'.out])
  · exact RetFI.mk _ (by rw [show normF f = fmul f 4841369599423283200 by simp [normF, h'.out]]; exact hx.mul Rep.c2p52) (by simp [normE, h'.out])
theorem frexp_c : Calls Tryd.prog 112 #[.float .f64 x] w (RetFI (partF f) (partE f) w) := by
  have h1 := hx.eq' Rep.c0
  cases h2 : feq f 0 <;> cases h3 : isInf f 0 <;> cases h4 : isN f
  all_goals
    have h2' := Lib.hid h2
    have h3' := Lib.hid h3
    have h4' := Lib.hid h4
    go_enter Tryd.func112, Tryd.ntmps112
    go_wp2_with (first | (go_at_call 69; refine (isInf_c (by assumption) _ _).mono ?_; rintro e w' ⟨n, rfl, rfl⟩) | (go_at_call 101; refine (isNaN_c (by assumption) _).mono ?_; rintro e w' ⟨n, rfl, rfl⟩) | (go_at_call 102; refine (nan_c _).mono ?_; rintro e w' ⟨r, n, rfl, hr, rfl⟩) | (go_at_call 62; refine (inf_c _ _).mono ?_; rintro e w' ⟨r, n, rfl, hr, rfl⟩) | (go_at_call 140; refine (norm_c (by assumption) _).mono ?_; rintro e w' ⟨r, n, rfl, hr, rfl⟩))
    go_ret2
  · have hb := normF_notN h4'.out
    refine RetFI.mk _ ?_ ?_
    · rw [show partF f = nrm (fracB (normF f)) by simp [partF, h2'.out, h3'.out, h4'.out]]
      exact (frac_bits r hr.lt).symm ▸ fracB_of_rep hr hb
    · rw [show partE f = normE f + (normF f / 4503599627370496 % 2048 : Nat) - 1022 by simp [partE, h2'.out, h3'.out, h4'.out]]
      have e := exp_bits r hr.lt
      rw [hr.eq_of hb] at e
      rw [← partE_walk _ _ (normE_bd f), ← e, hr.eq_of hb]
  all_goals
    have e1 : partF f = f := by simp [partF, h2'.out, h3'.out, h4'.out]
    have e2 : partE f = 0 := by simp [partE, h2'.out, h3'.out, h4'.out]
    rw [e1, e2]
    first | exact RetFI.mk0 hx rfl | exact RetFI.mk _ hx rfl
theorem ldexp_c (i : Int) (hn1 : -100000 ≤ i) (hn2 : i ≤ 100000) : Calls Tryd.prog 115 #[.float .f64 x, .int .i64 i] w (RetF (scaleF f i) w) := by
  have h1 := hx.eq' Rep.c0
  cases h2 : feq f 0 <;> cases h3 : isInf f 0 <;> cases h4 : isN f
  · have h2' := Lib.hid h2
    have h3' := Lib.hid h3
    have h4' := Lib.hid h4
    have hb := normF_notN h4
    have h5 := (Rep.self hx.normF_lt (nrm_of_not hb)).lt' Rep.c0
    have h6 := exp_walk f i hn1 hn2 hx.normF_lt
    have h7 := expOf_bd f i hn1 hn2
    go_enter Tryd.func115, Tryd.ntmps115
    go_wp2_with (first | (go_at_call 69; refine (isInf_c (by assumption) _ _).mono ?_; rintro e w' ⟨n, rfl, rfl⟩) | (go_at_call 101; refine (isNaN_c (by assumption) _).mono ?_; rintro e w' ⟨n, rfl, rfl⟩) | (go_at_call 102; refine (nan_c _).mono ?_; rintro e w' ⟨r, n, rfl, hr, rfl⟩) | (go_at_call 62; refine (inf_c _ _).mono ?_; rintro e w' ⟨r, n, rfl, hr, rfl⟩) | (go_at_call 140; refine (norm_c (by assumption) _).mono ?_; rintro e w' ⟨r, n, rfl, hr, rfl⟩; obtain rfl := hr.eq_of hb) | (go_at_call 93; refine (copysign_c Rep.c0 (by assumption) _ (by decide +kernel) hb).mono ?_; rintro e w' ⟨r, n, rfl, hr, rfl⟩))
    all_goals go_ret
    all_goals refine RetF.mk _ ?_
    · rw [show scaleF f i = copyF 0 (normF f) by simp [scaleF, h2'.out, h3'.out, h4'.out, *]]; assumption
    · have k3 : flt (normF f) 0 = true := by assumption
      rw [show scaleF f i = infN by unfold scaleF; rw [h2'.out, h3'.out, h4'.out, if_neg (by simp), if_neg (by omega), if_pos (by omega), k3, if_pos rfl]]; assumption
    · have k3 : flt (normF f) 0 = false := by assumption
      rw [show scaleF f i = infP by unfold scaleF; rw [h2'.out, h3'.out, h4'.out, if_neg (by simp), if_neg (by omega), if_pos (by omega), k3, if_neg (by simp)]]; assumption
    · have e1 : expOf f i + 53 + 1023 = expOf f i + 1076 := by omega
      rw [show scaleF f i = fmul 4368491638549381120 (normF f / 9223372036854775808 * 9223372036854775808 + (expOf f i + 1076).toNat * 4503599627370496 + normF f % 4503599627370496) by unfold scaleF; rw [h2'.out, h3'.out, h4'.out, if_neg (by simp), if_neg (by omega), if_neg (by omega), if_pos (by omega)], e1]
      exact Rep.ctiny53.mul (scale_rep (r := 0) _ _ hx.normF_lt (by omega) (by omega))
    · rw [show scaleF f i = fmul 4607182418800017408 (normF f / 9223372036854775808 * 9223372036854775808 + (expOf f i + 1023).toNat * 4503599627370496 + normF f % 4503599627370496) by unfold scaleF; rw [h2'.out, h3'.out, h4'.out, if_neg (by simp), if_neg (by omega), if_neg (by omega), if_neg (by omega)]]
      exact Rep.cone.mul (scale_rep (r := 0) _ _ hx.normF_lt (by omega) (by omega))
  all_goals
    have h2' := Lib.hid h2
    have h3' := Lib.hid h3
    have h4' := Lib.hid h4
    go_enter Tryd.func115, Tryd.ntmps115
    go_wp2_with (first | (go_at_call 69; refine (isInf_c (by assumption) _ _).mono ?_; rintro e w' ⟨n, rfl, rfl⟩) | (go_at_call 101; refine (isNaN_c (by assumption) _).mono ?_; rintro e w' ⟨n, rfl, rfl⟩) | (go_at_call 102; refine (nan_c _).mono ?_; rintro e w' ⟨r, n, rfl, hr, rfl⟩) | (go_at_call 62; refine (inf_c _ _).mono ?_; rintro e w' ⟨r, n, rfl, hr, rfl⟩))
    go_ret
  all_goals
    have e1 : scaleF f i = f := by simp [scaleF, h2'.out, h3'.out, h4'.out]
    rw [e1]
    first | exact RetF.mk0 hx | exact RetF.mk _ hx
end
end Go.Proofs.YtndknkdfbjfjcaaDoor
