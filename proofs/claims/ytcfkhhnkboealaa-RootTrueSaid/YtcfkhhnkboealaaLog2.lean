/- Logarithms of floats, and of one and a float: the program's and the document's come to one. No condition. -/
import Derived.Test.YtcfkhhnkboealaaPara
namespace Go.Proofs.Ytcfkhhnkboealaa
open Go.RowKit
set_option linter.unusedVariables false
set_option linter.unusedSimpArgs false
set_option maxRecDepth 100000

theorem isInf_one (f : Nat) : isInf f 1 = flt 9218868437227405311 f := by unfold isInf; rw [if_neg (by decide), if_neg (by decide)]
theorem partE_bd (f : Nat) : -2000 ≤ partE f ∧ partE f ≤ 2000 := by
  unfold partE
  have := normE_bd f
  have : normF f / 4503599627370496 % 2048 < 2048 := Nat.mod_lt _ (by decide)
  split <;> omega
theorem logF_a {x : Nat} (h1 : isN x = false) (h2 : isInf x 1 = false) (h3 : flt x 0 = false) (h4 : feq x 0 = false) :
    logF x = fadd (fmul (ofInt (logE x)) 4604418534311723008) (fadd (fmul (ofInt (logE x)) 4461442080421002358) (oddF (fdiv (fsub (logM x) 4607182418800017408) (fadd (logM x) 4607182418800017408)))) := by
  unfold logF; rw [h1, h2, h3, h4]; rfl
theorem logM_t {x : Nat} (h : flt (partF x) 4604544271217802189 = true) : logM x = fmul 4611686018427387904 (partF x) ∧ logE x = partE x - 1 := by unfold logM logE; rw [if_pos h, if_pos h]; exact ⟨rfl, rfl⟩
theorem logM_f {x : Nat} (h : flt (partF x) 4604544271217802189 = false) : logM x = partF x ∧ logE x = partE x := by unfold logM logE; rw [if_neg (by rw [h]; simp), if_neg (by rw [h]; simp)]; exact ⟨rfl, rfl⟩
theorem flt_nan0 {x : Nat} (h : isN x = true) (c : Nat) : flt x c = false ∧ flt c x = false ∧ feq x c = false ∧ fle x c = false ∧ fle c x = false := by
  rw [flt_eq, flt_eq, feq_eq, fle_eq, fle_eq, h]; simp
theorem isInf_zero {x : Nat} (h : feq x 0 = true) : isInf x 1 = false ∧ flt x 0 = false := by
  have hn : isN x = false := by cases hn : isN x
                                · rfl
                                · rw [(flt_nan0 hn 0).2.2.1] at h; cases h
  rw [feq_zero hn] at h
  simp at h
  have hs := (sval_zero_iff x).2 h
  rw [isInf_one, flt_eq, flt_eq, hn, isN_max, hs, sval_max, sval_zero]
  generalize mval 9218868437227405311 = M
  simp
theorem inf_notzero {x : Nat} (h : isInf x 1 = true) : feq x 0 = false := by
  cases h2 : feq x 0
  · rfl
  · rw [(isInf_zero h2).1] at h; cases h
theorem inf_notneg {x : Nat} (h1 : isN x = false) (h : isInf x 1 = true) : flt x 0 = false := by
  rw [isInf_one, flt_eq, isN_max, h1, sval_max] at h
  rw [flt_eq, h1, sval_zero]
  generalize mval 9218868437227405311 = M at h
  simp at h ⊢
  intro _; omega
section
variable {x y f g : Nat} (hx : Rep x f) (hy : Rep y g) (w : World)
include hx
theorem log_c : Calls Try.prog 120 #[.float .f64 x] w (RetF (logF f) w) := by
  have q1 := hx.none'
  have q3 := hx.lt' Rep.c0
  have q4 := hx.eq' Rep.c0
  have hb := partE_bd f
  cases h1 : isN f
  · cases h2 : isInf f 1
    · cases h3 : flt f 0
      · cases h4 : feq f 0
        · have HL := Lib.hid (logF_a h1 h2 h3 h4)
          cases h5 : flt (partF f) 4604544271217802189
          · have HM := Lib.hid (logM_f h5)
            have h5' := Lib.hid h5
            clear h5
            go_enter Try.func120, Try.ntmps120
            go_wp2_with (first | (go_at_call 104; refine (isInf_c hx _ _).mono ?_; rintro e w' ⟨n, rfl, rfl⟩) | (go_at_call 67; refine (nan_c _).mono ?_; rintro e w' ⟨r, n, rfl, hr, rfl⟩) | (go_at_call 75; refine (inf_c _ _).mono ?_; rintro e w' ⟨r, n, rfl, hr, rfl⟩) | (go_at_call 26; refine (parts_c hx _).mono ?_; rintro e w' ⟨r, n, rfl, hr, rfl⟩; have q5 := hr.lt' Rep.cR; rw [h5'.out] at q5) | (go_at_call 163; refine (odd_c ((hr.sub Rep.cone).quo (hr.add Rep.cone)) _).mono ?_; rintro e w' ⟨r2, n, rfl, hr2, rfl⟩))
            go_ret
            exact RetF.mk _ (by rw [HL.out, HM.out.1, HM.out.2]; exact ((ofInt_rep _).mul Rep.cH).add (((ofInt_rep _).mul Rep.cL).add hr2))
          · have HM := Lib.hid (logM_t h5)
            have h5' := Lib.hid h5
            clear h5
            go_enter Try.func120, Try.ntmps120
            go_wp2_with (first | (go_at_call 104; refine (isInf_c hx _ _).mono ?_; rintro e w' ⟨n, rfl, rfl⟩) | (go_at_call 67; refine (nan_c _).mono ?_; rintro e w' ⟨r, n, rfl, hr, rfl⟩) | (go_at_call 75; refine (inf_c _ _).mono ?_; rintro e w' ⟨r, n, rfl, hr, rfl⟩) | (go_at_call 26; refine (parts_c hx _).mono ?_; rintro e w' ⟨r, n, rfl, hr, rfl⟩; have q5 := hr.lt' Rep.cR; rw [h5'.out] at q5) | (go_at_call 163; refine (odd_c (((Rep.two.mul hr).sub Rep.cone).quo ((Rep.two.mul hr).add Rep.cone)) _).mono ?_; rintro e w' ⟨r2, n, rfl, hr2, rfl⟩))
            go_ret
            exact RetF.mk _ (by rw [HL.out, HM.out.1, HM.out.2]; exact ((ofInt_rep _).mul Rep.cH).add (((ofInt_rep _).mul Rep.cL).add hr2))
        · have HL : logF f = infN := by unfold logF; rw [h1, h2, h3, h4]; rfl
          have HL' := Lib.hid HL
          clear HL
          go_enter Try.func120, Try.ntmps120
          go_wp2_with (first | (go_at_call 104; refine (isInf_c hx _ _).mono ?_; rintro e w' ⟨n, rfl, rfl⟩) | (go_at_call 67; refine (nan_c _).mono ?_; rintro e w' ⟨r, n, rfl, hr, rfl⟩) | (go_at_call 75; refine (inf_c _ _).mono ?_; rintro e w' ⟨r, n, rfl, hr, rfl⟩))
          go_ret
          exact RetF.mk _ (by rw [HL'.out]; exact hr)
      · have HL : logF f = nanB := by unfold logF; rw [h1, h2, h3]; rfl
        have HL' := Lib.hid HL
        clear HL
        go_enter Try.func120, Try.ntmps120
        go_wp2_with (first | (go_at_call 104; refine (isInf_c hx _ _).mono ?_; rintro e w' ⟨n, rfl, rfl⟩) | (go_at_call 67; refine (nan_c _).mono ?_; rintro e w' ⟨r, n, rfl, hr, rfl⟩) | (go_at_call 75; refine (inf_c _ _).mono ?_; rintro e w' ⟨r, n, rfl, hr, rfl⟩))
        go_ret
        exact RetF.mk _ (by rw [HL'.out]; exact hr)
    · have HL : logF f = f := by unfold logF; rw [h1, h2]; rfl
      have HL' := Lib.hid HL
      clear HL
      go_enter Try.func120, Try.ntmps120
      go_wp2_with (first | (go_at_call 104; refine (isInf_c hx _ _).mono ?_; rintro e w' ⟨n, rfl, rfl⟩) | (go_at_call 67; refine (nan_c _).mono ?_; rintro e w' ⟨r, n, rfl, hr, rfl⟩) | (go_at_call 75; refine (inf_c _ _).mono ?_; rintro e w' ⟨r, n, rfl, hr, rfl⟩))
      go_ret
      first | exact RetF.mk _ (by rw [HL'.out]; exact hx) | exact RetF.mk0 (by rw [HL'.out]; exact hx)
  · have HL : logF f = f := by unfold logF; rw [h1]; rfl
    have HL' := Lib.hid HL
    clear HL
    have hnn := Lib.hid (hx.nan_of h1)
    go_enter Try.func120, Try.ntmps120
    go_wp2_with (first | (go_at_call 104; refine (isInf_c hx _ _).mono ?_; rintro e w' ⟨n, rfl, rfl⟩) | (go_at_call 67; refine (nan_c _).mono ?_; rintro e w' ⟨r, n, rfl, hr, rfl⟩) | (go_at_call 75; refine (inf_c _ _).mono ?_; rintro e w' ⟨r, n, rfl, hr, rfl⟩))
    go_ret
    first | exact RetF.mk _ (by rw [HL'.out]; exact hx) | exact RetF.mk0 (by rw [HL'.out]; exact hx) | exact RetF.mk _ (by rw [HL'.out, hnn.out]; exact hr)
end
end Go.Proofs.Ytcfkhhnkboealaa
