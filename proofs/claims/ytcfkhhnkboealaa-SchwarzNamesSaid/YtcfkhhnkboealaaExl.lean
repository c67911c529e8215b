/- Logarithms of floats, and of one and a float: the program's and the document's come to one. No condition. Exponentials: what the program's steps come to. No condition. The logarithm of one and a float: the program's and the document's come to one. No condition. Exponentials less one, half sums and half differences, of the program. No condition. -/
import Derived.Test.YtcfkhhnkboealaaPara
import Derived.Test.YtcfkhhnkboealaaWhb
namespace Go.Proofs.Ytcfkhhnkboealaa
open Go.RowKit
set_option linter.unusedVariables false
set_option linter.unusedSimpArgs false
set_option maxRecDepth 100000

theorem isInf_one (f : Nat) : isInf f 1 = flt 9218868437227405311 f := by unfold isInf; rw [if_neg (by decide), if_neg (by decide)]
theorem partE_bd (f : Nat) : -2000 ≤ partE f ∧ partE f ≤ 2000 := by
  unfold partE
  have := normE_bd f
  have : normF f / 4503599627370496 % 2048 < 2048 := Nat.mod_lt _ (by decide)
  split <;> omega
theorem logF_a {x : Nat} (h1 : isN x = false) (h2 : isInf x 1 = false) (h3 : flt x 0 = false) (h4 : feq x 0 = false) :
    logF x = fadd (fmul (ofInt (logE x)) 4604418534311723008) (fadd (fmul (ofInt (logE x)) 4461442080421002358) (oddF (fdiv (fsub (logM x) 4607182418800017408) (fadd (logM x) 4607182418800017408)))) := by
  unfold logF; rw [h1, h2, h3, h4]; rfl
theorem logM_t {x : Nat} (h : flt (partF x) 4604544271217802189 = true) : logM x = fmul 4611686018427387904 (partF x) ∧ logE x = partE x - 1 := by unfold logM logE; rw [if_pos h, if_pos h]; exact ⟨rfl, rfl⟩
theorem logM_f {x : Nat} (h : flt (partF x) 4604544271217802189 = false) : logM x = partF x ∧ logE x = partE x := by unfold logM logE; rw [if_neg (by rw [h]; simp), if_neg (by rw [h]; simp)]; exact ⟨rfl, rfl⟩
theorem flt_nan0 {x : Nat} (h : isN x = true) (c : Nat) : flt x c = false ∧ flt c x = false ∧ feq x c = false ∧ fle x c = false ∧ fle c x = false := by
  rw [flt_eq, flt_eq, feq_eq, fle_eq, fle_eq, h]; simp
theorem isInf_zero {x : Nat} (h : feq x 0 = true) : isInf x 1 = false ∧ flt x 0 = false := by
  have hn : isN x = false := by cases hn : isN x
                                · rfl
                                · rw [(flt_nan0 hn 0).2.2.1] at h; cases h
  rw [feq_zero hn] at h
  simp at h
  have hs := (sval_zero_iff x).2 h
  rw [isInf_one, flt_eq, flt_eq, hn, isN_max, hs, sval_max, sval_zero]
  generalize mval 9218868437227405311 = M
  simp
theorem inf_notzero {x : Nat} (h : isInf x 1 = true) : feq x 0 = false := by
  cases h2 : feq x 0
  · rfl
  · rw [(isInf_zero h2).1] at h; cases h
theorem inf_notneg {x : Nat} (h1 : isN x = false) (h : isInf x 1 = true) : flt x 0 = false := by
  rw [isInf_one, flt_eq, isN_max, h1, sval_max] at h
  rw [flt_eq, h1, sval_zero]
  generalize mval 9218868437227405311 = M at h
  simp at h ⊢
  intro _; omega
section
variable {x y f g : Nat} (hx : Rep x f) (hy : Rep y g) (w : World)
include hx
theorem log_c : Calls Try.prog 120 #[.float .f64 x] w (RetF (logF f) w) := by
  have q1 := hx.none'
  have q3 := hx.lt' Rep.c0
  have q4 := hx.eq' Rep.c0
  have hb := partE_bd f
  cases h1 : isN f
  · cases h2 : isInf f 1
    · cases h3 : flt f 0
      · cases h4 : feq f 0
        · have HL := Lib.hid (logF_a h1 h2 h3 h4)
          cases h5 : flt (partF f) 4604544271217802189
          · have HM := Lib.hid (logM_f h5)
            have h5' := Lib.hid h5
            clear h5
            go_enter Try.func120, Try.ntmps120
            go_wp2_with (first | (go_at_call 104; refine (isInf_c hx _ _).mono ?_; rintro e w' ⟨n, rfl, rfl⟩) | (go_at_call 67; refine (nan_c _).mono ?_; rintro e w' ⟨r, n, rfl, hr, rfl⟩) | (go_at_call 75; refine (inf_c _ _).mono ?_; rintro e w' ⟨r, n, rfl, hr, rfl⟩) | (go_at_call 26; refine (parts_c hx _).mono ?_; rintro e w' ⟨r, n, rfl, hr, rfl⟩; have q5 := hr.lt' Rep.cR; rw [h5'.out] at q5) | (go_at_call 163; refine (odd_c ((hr.sub Rep.cone).quo (hr.add Rep.cone)) _).mono ?_; rintro e w' ⟨r2, n, rfl, hr2, rfl⟩))
            go_ret
            exact RetF.mk _ (by rw [HL.out, HM.out.1, HM.out.2]; exact ((ofInt_rep _).mul Rep.cH).add (((ofInt_rep _).mul Rep.cL).add hr2))
          · have HM := Lib.hid (logM_t h5)
            have h5' := Lib.hid h5
            clear h5
            go_enter Try.func120, Try.ntmps120
            go_wp2_with (first | (go_at_call 104; refine (isInf_c hx _ _).mono ?_; rintro e w' ⟨n, rfl, rfl⟩) | (go_at_call 67; refine (nan_c _).mono ?_; rintro e w' ⟨r, n, rfl, hr, rfl⟩) | (go_at_call 75; refine (inf_c _ _).mono ?_; rintro e w' ⟨r, n, rfl, hr, rfl⟩) | (go_at_call 26; refine (parts_c hx _).mono ?_; rintro e w' ⟨r, n, rfl, hr, rfl⟩; have q5 := hr.lt' Rep.cR; rw [h5'.out] at q5) | (go_at_call 163; refine (odd_c (((Rep.two.mul hr).sub Rep.cone).quo ((Rep.two.mul hr).add Rep.cone)) _).mono ?_; rintro e w' ⟨r2, n, rfl, hr2, rfl⟩))
            go_ret
            exact RetF.mk _ (by rw [HL.out, HM.out.1, HM.out.2]; exact ((ofInt_rep _).mul Rep.cH).add (((ofInt_rep _).mul Rep.cL).add hr2))
        · have HL : logF f = infN := by unfold logF; rw [h1, h2, h3, h4]; rfl
          have HL' := Lib.hid HL
          clear HL
          go_enter Try.func120, Try.ntmps120
          go_wp2_with (first | (go_at_call 104; refine (isInf_c hx _ _).mono ?_; rintro e w' ⟨n, rfl, rfl⟩) | (go_at_call 67; refine (nan_c _).mono ?_; rintro e w' ⟨r, n, rfl, hr, rfl⟩) | (go_at_call 75; refine (inf_c _ _).mono ?_; rintro e w' ⟨r, n, rfl, hr, rfl⟩))
          go_ret
          exact RetF.mk _ (by rw [HL'.out]; exact hr)
      · have HL : logF f = nanB := by unfold logF; rw [h1, h2, h3]; rfl
        have HL' := Lib.hid HL
        clear HL
        go_enter Try.func120, Try.ntmps120
        go_wp2_with (first | (go_at_call 104; refine (isInf_c hx _ _).mono ?_; rintro e w' ⟨n, rfl, rfl⟩) | (go_at_call 67; refine (nan_c _).mono ?_; rintro e w' ⟨r, n, rfl, hr, rfl⟩) | (go_at_call 75; refine (inf_c _ _).mono ?_; rintro e w' ⟨r, n, rfl, hr, rfl⟩))
        go_ret
        exact RetF.mk _ (by rw [HL'.out]; exact hr)
    · have HL : logF f = f := by unfold logF; rw [h1, h2]; rfl
      have HL' := Lib.hid HL
      clear HL
      go_enter Try.func120, Try.ntmps120
      go_wp2_with (first | (go_at_call 104; refine (isInf_c hx _ _).mono ?_; rintro e w' ⟨n, rfl, rfl⟩) | (go_at_call 67; refine (nan_c _).mono ?_; rintro e w' ⟨r, n, rfl, hr, rfl⟩) | (go_at_call 75; refine (inf_c _ _).mono ?_; rintro e w' ⟨r, n, rfl, hr, rfl⟩))
      go_ret
      first | exact RetF.mk _ (by rw [HL'.out]; exact hx) | exact RetF.mk0 (by rw [HL'.out]; exact hx)
  · have HL : logF f = f := by unfold logF; rw [h1]; rfl
    have HL' := Lib.hid HL
    clear HL
    have hnn := Lib.hid (hx.nan_of h1)
    go_enter Try.func120, Try.ntmps120
    go_wp2_with (first | (go_at_call 104; refine (isInf_c hx _ _).mono ?_; rintro e w' ⟨n, rfl, rfl⟩) | (go_at_call 67; refine (nan_c _).mono ?_; rintro e w' ⟨r, n, rfl, hr, rfl⟩) | (go_at_call 75; refine (inf_c _ _).mono ?_; rintro e w' ⟨r, n, rfl, hr, rfl⟩))
    go_ret
    first | exact RetF.mk _ (by rw [HL'.out]; exact hx) | exact RetF.mk0 (by rw [HL'.out]; exact hx) | exact RetF.mk _ (by rw [HL'.out, hnn.out]; exact hr)
end
end Go.Proofs.Ytcfkhhnkboealaa
namespace Go.Proofs.Ytcfkhhnkboealaa
open Go.RowKit
set_option linter.unusedVariables false
set_option linter.unusedSimpArgs false
set_option maxRecDepth 100000
set_option maxHeartbeats 4000000

def riseSeq (r : Nat) : Nat → Nat
  | 0 => 4607182418800017408
  | k + 1 => fadd 4607182418800017408 (fdiv (fmul r (riseSeq r k)) (ofInt (13 - (k : Int))))
def expN (f : Nat) : Nat := wholeF (fmul f 4609176140021203710)
def expR (f : Nat) : Nat := fsub (fsub f (fmul (expN f) 4604418534311723008)) (fmul (expN f) 4461442080421002358)
def expF (f : Nat) : Nat := if isN f then nanB else if flt 4649454594685214392 f then infP else if flt f 13873137573428325253 then 0 else scaleF (riseSeq (expR f) 13) (clampN (wInt (expN f)))
theorem Rep.cturned : Rep 4609176140021203710 4609176140021203710 := Rep.self (by decide) (by decide +kernel)
theorem Rep.cgreat : Rep 4649454594685214392 4649454594685214392 := Rep.self (by decide) (by decide +kernel)
theorem Rep.csmall : Rep 13873137573428325253 13873137573428325253 := Rep.self (by decide) (by decide +kernel)
theorem exp_closed : sval 4649454594685214392 ≤ ((2 ^ 10 * U : Nat) : Int) ∧ -((2 ^ 10 * U : Nat) : Int) ≤ sval 13873137573428325253 ∧ 2 ^ 10 * U < mval 9218868437227405312 := by decide +kernel
theorem exp_bd {f : Nat} (hl : f < 18446744073709551616) (h1 : isN f = false) (h2 : flt 4649454594685214392 f = false) (h3 : flt f 13873137573428325253 = false) : Bd f 10 := by
  rw [flt_eq, h1, show isN 4649454594685214392 = false by decide +kernel] at h2
  rw [flt_eq, h1, show isN 13873137573428325253 = false by decide +kernel] at h3
  simp only [Bool.not_false, Bool.true_and, decide_eq_false_iff_not] at h2 h3
  obtain ⟨c1, c2, c3⟩ := exp_closed
  have hm : mval (rung f) ≤ 2 ^ 10 * U := by
    generalize 2 ^ 10 * U = B at *
    generalize sval 4649454594685214392 = G at *
    generalize sval 13873137573428325253 = S at *
    rcases sval_cases f with ⟨_, e⟩ | ⟨_, e⟩ <;> rw [e] at h2 h3 <;> omega
  refine ⟨hl, ?_, hm⟩
  unfold Proofs.Ytcfkhhnkboealaa.fin
  have := mval_lt_iff.1 (Nat.lt_of_le_of_lt hm c3)
  simpa using this
section
variable {x y f g : Nat} (hx : Rep x f) (hy : Rep y g) (w : World)
include hx
theorem rising_c (m : Nat) (hm : m ≤ 13) : Calls Try.prog 162 #[.float .f64 x, .int .i64 (14 - (m : Int))] w (RetF (riseSeq f m) w) := by
  go_enter Try.func162, Try.ntmps162
  go_wp2
  go_loopw [5, 9] (fun t i wr => ∃ k d v : Nat, i = .int .i64 k ∧ k ≤ m ∧ t = .float .f64 v ∧ Rep v (riseSeq f k) ∧ wr = w.drewN d) (fun _ i _ => m - (intOf i).toNat)
  case atStart => exact ⟨0, 0, _, rfl, by omega, rfl, Rep.cone, rfl⟩
  case round =>
    obtain ⟨k, d, v, rfl, hk, rfl, hv, rfl⟩ := hrel
    by_cases hlt : k < m
    · go_wp2
      go_roundw
      case rel =>
        refine ⟨k + 1, _, _, by go_num, by omega, rfl, ?_, rfl⟩
        exact Rep.cone.add ((hx.mul hv).quo (ofInt_rep _))
      case measure => simp [intOf]; omega
    · have hk2 : k = m := by omega
      subst hk2
      go_wp2
      go_ret
      exact RetF.mk _ hv
theorem exp_c : Calls Try.prog 119 #[.float .f64 x] w (RetF (expF f) w) := by
  have q1 := hx.none'
  have q2 := hx.gt' Rep.cgreat
  have q3 := hx.lt' Rep.csmall
  cases h1 : isN f
  · cases h2 : flt 4649454594685214392 f
    · cases h3 : flt f 13873137573428325253
      · have HE : RowKit.Hid (expF f = scaleF (riseSeq (expR f) 13) (clampN (wInt (expN f)))) := Lib.hid (by unfold expF; rw [h1, h2, h3, if_neg (by simp), if_neg (by simp), if_neg (by simp)])
        have HB := Lib.hid ((((exp_bd hx.flt h1 h2 h3).mul (Bd.const' (c := 4609176140021203710) (k := 1) (by decide) (by decide +kernel) (by decide +kernel) (by decide)) (by decide)).whole (by decide)).1)
        rw [h1] at q1
        rw [h2] at q2
        rw [h3] at q3
        obtain ⟨m, hm⟩ : ∃ m, m = expN f := ⟨_, rfl⟩
        have HM := Lib.hid hm
        have hmB : Bd m (10 + 1) := by rw [hm]; exact HB.out
        have hmR : Rep m m := Rep.self hmB.lt (nrm_of_not hmB.notN)
        have HMB := Lib.hid hmB
        have hr : ∀ w1 w2 w3 w4, Rep (fres .sub (fres .sub x (fres .mul m 4604418534311723008 w1) w2) (fres .mul m 4461442080421002358 w3) w4) (expR f) := fun w1 w2 w3 w4 => by
          unfold expR; rw [← HM.out]; exact (hx.sub (hmR.mul Rep.cH)).sub (hmR.mul Rep.cL)
        clear h1 h2 h3 hm hmB
        have wb := wInt_bd HMB.out
        have wb2 : -2048 ≤ wInt m ∧ wInt m ≤ 2048 := by
          have : (2 : Nat) ^ (10 + 1) = 2048 := by decide
          omega
        have k4 : ∀ w : World, (convert 25 3 (.float .f64 m)).run Try.prog w = .ok (.int .i64 (wInt m)) w := fun w =>
          run_convert_float_int w 25 3 .f64 .i64 _ _ (by kernel_rfl) (by kernel_rfl) (toIntVal_i64 (toInt_wInt HMB.out.fin) (by omega) (by omega))
        clear wb
        go_enter Try.func119, Try.ntmps119
        go_wp2_with (first | (go_at_call 161; refine (whole_c (hx.mul Rep.cturned) _).mono ?_; rintro e w' ⟨r, n, rfl, hr1, rfl⟩; obtain rfl : m = r := ((hr1.eq_of (by have := HMB.out.notN; rw [HM.out] at this; exact this)).trans HM.out.symm).symm) | (go_at_call 162; refine (rising_c (hr _ _ _ _) _ 13 (by decide)).mono ?_; rintro e w' ⟨r2, n, rfl, hr2, rfl⟩) | (go_at_call 28; refine (scale_c hr2 _ _).mono ?_; rintro e w' ⟨r3, n, rfl, hr3, rfl⟩))
        go_ret
        exact RetF.mk _ (by rw [HE.out, ← HM.out]; exact hr3)
      · have HE : RowKit.Hid (expF f = 0) := Lib.hid (by unfold expF; rw [h1, h2, h3, if_neg (by simp), if_neg (by simp), if_pos rfl])
        rw [h1] at q1
        rw [h2] at q2
        rw [h3] at q3
        go_enter Try.func119, Try.ntmps119
        go_wp2
        go_ret
        exact RetF.mk0 (by rw [HE.out]; exact Rep.c0)
    · have HE : RowKit.Hid (expF f = infP) := Lib.hid (by unfold expF; rw [h1, h2, if_neg (by simp), if_pos rfl])
      rw [h1] at q1
      rw [h2] at q2
      go_enter Try.func119, Try.ntmps119
      go_wp2_with (go_at_call 75; refine (inf_c _ _).mono ?_; rw [if_pos (by decide)]; rintro e w' ⟨r, n, rfl, hr, rfl⟩)
      go_ret
      exact RetF.mk _ (by rw [HE.out]; exact hr)
  · have HE : RowKit.Hid (expF f = nanB) := Lib.hid (by unfold expF; rw [h1, if_pos rfl])
    have HF : RowKit.Hid (f = nanB) := Lib.hid (hx.nan_of h1)
    rw [h1] at q1
    go_enter Try.func119, Try.ntmps119
    go_wp2
    go_ret
    exact RetF.mk0 (by rw [HE.out, ← HF.out]; exact hx)
end
end Go.Proofs.Ytcfkhhnkboealaa
namespace Go.Proofs.Ytcfkhhnkboealaa
open Go.RowKit
set_option linter.unusedVariables false
set_option linter.unusedSimpArgs false
set_option maxRecDepth 100000

theorem sval_m1 : sval 13830554455654793216 = -((mval 4607182418800017408 : Nat) : Int) := by
  unfold sval; rw [show sgn 13830554455654793216 = true by decide +kernel, show rung 13830554455654793216 = 4607182418800017408 by decide +kernel]; rfl
theorem sval_1 : sval 4607182418800017408 = ((mval 4607182418800017408 : Nat) : Int) := by
  unfold sval; rw [show sgn 4607182418800017408 = false by decide +kernel, show rung 4607182418800017408 = 4607182418800017408 by decide +kernel]; rfl
theorem logF_neg {x : Nat} (h1 : isN x = false) (h : sval x < 0) : logF x = nanB := by
  have h2 : isInf x 1 = false := by
    rw [isInf_one, flt_eq, isN_max, h1, sval_max]
    generalize mval 9218868437227405311 = M
    simp; omega
  have h3 : flt x 0 = true := by rw [flt_eq, h1, show isN 0 = false by decide +kernel, sval_zero]; simp; exact h
  unfold logF
  rw [if_neg (by rw [h1, h2]; simp), if_pos h3]
theorem logF_nan : logF nanB = nanB := by unfold logF; rw [if_pos (by rw [isN_nanB]; rfl)]
theorem more_neg {x : Nat} (hl : x < 18446744073709551616) (h : flt x 13830554455654793216 = true) : logF (fadd 4607182418800017408 x) = nanB := by
  rw [flt_eq, show isN 13830554455654793216 = false by decide +kernel, sval_m1] at h
  cases hn : isN x
  · rw [hn] at h
    simp only [Bool.not_false, Bool.true_and, decide_eq_true_eq] at h
    cases hf : fin x
    · have hi := inf_of hn hf
      have hs : sgn x = true := by
        rcases sval_cases x with ⟨a, e⟩ | ⟨a, e⟩
        · rw [e] at h; generalize mval 4607182418800017408 = M at h; omega
        · exact a
      rw [fadd_infr (by decide +kernel) hi, hs]
      exact logF_neg (wd_notN (by omega)) (by rw [wd_sval (by omega)]; have := mval_pos (show 0 < 9218868437227405312 by decide); simp; generalize mval 9218868437227405312 = M at *; omega)
    · rw [fadd_fin (by decide +kernel) hf, sval_1]
      have hneg : ((mval 4607182418800017408 : Nat) : Int) + sval x < 0 := by generalize mval 4607182418800017408 = M at *; omega
      generalize ((mval 4607182418800017408 : Nat) : Int) + sval x = S at hneg
      rw [if_neg (by omega), decide_eq_true hneg]
      refine logF_neg (wd_notN (rndN_le _)) ?_
      rw [wd_sval (rndN_le _)]
      have h2 : rndN S.natAbs ≠ 0 := rnd_pos (by omega)
      have h3 := mval_pos (show 0 < rndN S.natAbs by omega)
      generalize mval (rndN S.natAbs) = M at *
      simp; omega
  · rw [fadd_nan (.inr hn)]; exact logF_nan
theorem more_one {x : Nat} (hl : x < 18446744073709551616) (h : feq x 13830554455654793216 = true) : x = 13830554455654793216 := by
  rw [feq_eq, show isN 13830554455654793216 = false by decide +kernel] at h
  simp at h
  exact (sval_inj (by decide) hl h.2.symm (by decide +kernel)).symm
theorem inf_is {x : Nat} (hl : x < 18446744073709551616) (hn : isN x = false) (h : isInf x 1 = true) : x = 9218868437227405312 := by
  rw [infP_iff hl hn] at h; simpa using h
def refMoreF (x : Nat) : Nat :=
  if isN x || flt x 13830554455654793216 then nanB else if feq x 13830554455654793216 then infN else if isInf x 1 then x else moreF x
theorem refMore_eq {x : Nat} (hl : x < 18446744073709551616) : refMoreF x = moreF x := by
  unfold refMoreF
  cases hn : isN x
  · cases h1 : flt x 13830554455654793216
    · rw [if_neg (by simp)]
      cases h2 : feq x 13830554455654793216
      · rw [if_neg (by simp)]
        cases h3 : isInf x 1
        · rw [if_neg (by simp)]
        · rw [if_pos rfl, inf_is hl hn h3]; decide +kernel
      · rw [if_pos rfl, more_one hl h2]; decide +kernel
    · rw [if_pos (by simp)]
      unfold moreF
      have h2 : fle 13821547256400052224 x = false := by
        rw [flt_eq, hn, show isN 13830554455654793216 = false by decide +kernel] at h1
        simp at h1
        rw [fle_eq, hn, show isN 13821547256400052224 = false by decide +kernel]
        have : sval 13830554455654793216 < sval 13821547256400052224 := lt_neg (r := 4598175219545276416) (s := 4607182418800017408) (by decide) (by decide)
        simp; omega
      rw [h2, if_neg (by simp), more_neg hl h1]
  · rw [if_pos (by simp)]
    unfold moreF
    rw [(flt_nan0 hn _).2.2.2.2, if_neg (by simp), fadd_nan (.inr hn), logF_nan]
section
variable {x y f g : Nat} (hx : Rep x f) (hy : Rep y g) (w : World)
theorem Rep.cq1 : Rep 13821547256400052224 13821547256400052224 := Rep.self (by decide) (by decide +kernel)
theorem Rep.cq2 : Rep 4600427019358961664 4600427019358961664 := Rep.self (by decide) (by decide +kernel)
include hx
end
end Go.Proofs.Ytcfkhhnkboealaa
namespace Go.Proofs.Ytcfkhhnkboealaa
open Go.RowKit
set_option linter.unusedVariables false
set_option linter.unusedSimpArgs false
set_option maxRecDepth 100000
set_option maxHeartbeats 4000000

def lessE (f : Nat) : Nat := if isN f then nanB else if flt 4649454594685214392 f then infP else if feq (expN f) 0 then fmul f (riseSeq f 12) else fsub (expF f) 4607182418800017408
def coshF (f : Nat) : Nat := fmul (fadd (expF f) (expF (fneg f))) 4602678819172646912
def sinhH (e : Nat) : Nat := if isInf e 1 then e else fmul (fadd e (fdiv e (fadd e 4607182418800017408))) 4602678819172646912
def sinhF (f : Nat) : Nat := if isN f then nanB else signed (sinhH (lessE (fabs f))) f
theorem sinhF_eq (f : Nat) : sinhF f = if isN f then nanB else if isInf (lessE (fabs f)) 1 then signed (lessE (fabs f)) f else signed (fmul (fadd (lessE (fabs f)) (fdiv (lessE (fabs f)) (fadd (lessE (fabs f)) 4607182418800017408))) 4602678819172646912) f := by
  unfold sinhF sinhH
  cases isInf (lessE (fabs f)) 1 <;> simp
section
variable {x y f g : Nat} (hx : Rep x f) (hy : Rep y g) (w : World)
include hx
end
end Go.Proofs.Ytcfkhhnkboealaa
