/- Exponentials less one, half sums and half differences, of the program. No condition. -/
import Derived.Test.YtndknkdfbjfjcaaDoorExp
import Derived.Test.YtndknkdfbjfjcaaDoorMore
namespace Go.Proofs.YtndknkdfbjfjcaaDoor
open Go.RowKit
set_option linter.unusedVariables false
set_option linter.unusedSimpArgs false
set_option maxRecDepth 100000
set_option maxHeartbeats 4000000

def lessE (f : Nat) : Nat := if isN f then nanB else if flt 4649454594685214392 f then infP else if feq (expN f) 0 then fmul f (riseSeq f 12) else fsub (expF f) 4607182418800017408
def coshF (f : Nat) : Nat := fmul (fadd (expF f) (expF (fneg f))) 4602678819172646912
def sinhH (e : Nat) : Nat := if isInf e 1 then e else fmul (fadd e (fdiv e (fadd e 4607182418800017408))) 4602678819172646912
def sinhF (f : Nat) : Nat := if isN f then nanB else signed (sinhH (lessE (fabs f))) f
theorem sinhF_eq (f : Nat) : sinhF f = if isN f then nanB else if isInf (lessE (fabs f)) 1 then signed (lessE (fabs f)) f else signed (fmul (fadd (lessE (fabs f)) (fdiv (lessE (fabs f)) (fadd (lessE (fabs f)) 4607182418800017408))) 4602678819172646912) f := by
  unfold sinhF sinhH
  cases isInf (lessE (fabs f)) 1 <;> simp
section
variable {x y f g : Nat} (hx : Rep x f) (hy : Rep y g) (w : World)
theorem two_c (w : World) : Calls Tryd.prog 16 #[] w (RetFF 4604418534311723008 4461442080421002358 w) := by
  go_enter Tryd.func16, Tryd.ntmps16
  go_wp2
  go_ret2
  exact RetFF.mk0 Rep.cH Rep.cL
include hx
theorem elemLess_c : Calls Tryd.prog 14 #[.float .f64 x] w (RetF (lessE f) w) := by
  have q1 := hx.none'
  have q2 := hx.gt' Rep.cgreat
  cases h1 : isN f
  · cases h2 : flt 4649454594685214392 f
    · cases h3 : feq (expN f) 0
      · have HE : RowKit.Hid (lessE f = fsub (expF f) 4607182418800017408) := Lib.hid (by unfold lessE; rw [h1, h2, h3]; rfl)
        have H3 := Lib.hid h3
        rw [h1] at q1
        rw [h2] at q2
        clear h3
        go_enter Tryd.func14, Tryd.ntmps14
        go_wp2_with (first | (go_at_call 30; (with_reducible refine (whole_c (hx.mul Rep.cturned) _).mono ?_); rintro e w' ⟨r, n, rfl, hr1, rfl⟩; have q3 := hr1.eq' Rep.c0; rw [show feq (wholeF (fmul f 4609176140021203710)) 0 = false from H3.out] at q3) | (go_at_call 10; (with_reducible refine (exp_c hx _).mono ?_); rintro e w' ⟨r2, n, rfl, hr2, rfl⟩))
        go_ret
        exact RetF.mk _ (by rw [HE.out]; exact hr2.sub Rep.cone)
      · have HE : RowKit.Hid (lessE f = fmul f (riseSeq f 12)) := Lib.hid (by unfold lessE; rw [h1, h2, h3]; rfl)
        have H3 := Lib.hid h3
        rw [h1] at q1
        rw [h2] at q2
        clear h3
        go_enter Tryd.func14, Tryd.ntmps14
        go_wp2_with (first | (go_at_call 30; (with_reducible refine (whole_c (hx.mul Rep.cturned) _).mono ?_); rintro e w' ⟨r, n, rfl, hr1, rfl⟩; have q3 := hr1.eq' Rep.c0; rw [show feq (wholeF (fmul f 4609176140021203710)) 0 = true from H3.out] at q3) | (go_at_call 63; (refine (rising_c hx _ 12 (by decide)).mono ?_; rintro e w' ⟨r2, n, rfl, hr2, rfl⟩)))
        go_ret
        exact RetF.mk _ (by rw [HE.out]; exact hx.mul hr2)
    · have HE : RowKit.Hid (lessE f = infP) := Lib.hid (by unfold lessE; rw [h1, h2]; rfl)
      rw [h1] at q1
      rw [h2] at q2
      go_enter Tryd.func14, Tryd.ntmps14
      go_wp2_with (first | (go_at_call 62; (refine (inf_c _ _).mono ?_; rw [if_pos (by decide)]; rintro e w' ⟨r, n, rfl, hr, rfl⟩)))
      go_ret
      exact RetF.mk _ (by rw [HE.out]; exact hr)
  · have HE : RowKit.Hid (lessE f = f) := Lib.hid (by unfold lessE; rw [h1, hx.nan_of h1]; rfl)
    rw [h1] at q1
    go_enter Tryd.func14, Tryd.ntmps14
    go_wp2
    go_ret
    exact RetF.mk0 (by rw [HE.out]; exact hx)
theorem cosh_c : Calls Tryd.prog 17 #[.float .f64 x] w (RetF (coshF f) w) := by
  go_enter Tryd.func17, Tryd.ntmps17
  go_wp2_with (first | (go_at_call 10; (with_reducible refine (exp_c hx _).mono ?_); rintro e w' ⟨r, n, rfl, hr, rfl⟩) | (go_at_call 10; (with_reducible refine (exp_c hx.neg _).mono ?_); rintro e w' ⟨r2, n2, rfl, hr2, rfl⟩))
  go_ret
  exact RetF.mk _ ((hr.add hr2).mul Rep.half)
theorem sinh_c : Calls Tryd.prog 19 #[.float .f64 x] w (RetF (sinhF f) w) := by
  have q1 := hx.none'
  cases h1 : isN f
  · cases h2 : isInf (lessE (fabs f)) 1
    · have HE : RowKit.Hid (sinhF f = signed (fmul (fadd (lessE (fabs f)) (fdiv (lessE (fabs f)) (fadd (lessE (fabs f)) 4607182418800017408))) 4602678819172646912) f) := Lib.hid (by rw [sinhF_eq, h1, h2]; rfl)
      have H2 := Lib.hid h2
      rw [h1] at q1
      clear h2
      go_enter Tryd.func19, Tryd.ntmps19
      go_wp2_with (first | (go_at_call 68; (with_reducible refine (abs_c hx _).mono ?_); rintro e w' ⟨r, n, rfl, hr, rfl⟩) | (go_at_call 14; (with_reducible refine (elemLess_c hr _).mono ?_); rintro e w' ⟨r2, n2, rfl, hr2, rfl⟩) | (go_at_call 69; (with_reducible refine (isInf_c hr2 _ _).mono ?_); rw [H2.out]; rintro e w' ⟨n3, rfl, rfl⟩) | (go_at_call 70; (with_reducible refine (signed_c ((hr2.add (hr2.quo (hr2.add Rep.cone))).mul Rep.half) hx _).mono ?_); rintro e w' ⟨r3, n4, rfl, hr3, rfl⟩))
      go_ret
      exact RetF.mk _ (by rw [HE.out]; exact hr3)
    · have HE : RowKit.Hid (sinhF f = signed (lessE (fabs f)) f) := Lib.hid (by rw [sinhF_eq, h1, h2]; rfl)
      have H2 := Lib.hid h2
      rw [h1] at q1
      clear h2
      go_enter Tryd.func19, Tryd.ntmps19
      go_wp2_with (first | (go_at_call 68; (with_reducible refine (abs_c hx _).mono ?_); rintro e w' ⟨r, n, rfl, hr, rfl⟩) | (go_at_call 14; (with_reducible refine (elemLess_c hr _).mono ?_); rintro e w' ⟨r2, n2, rfl, hr2, rfl⟩) | (go_at_call 69; (with_reducible refine (isInf_c hr2 _ _).mono ?_); rw [H2.out]; rintro e w' ⟨n3, rfl, rfl⟩) | (go_at_call 70; (with_reducible refine (signed_c hr2 hx _).mono ?_); rintro e w' ⟨r3, n4, rfl, hr3, rfl⟩))
      go_ret
      exact RetF.mk _ (by rw [HE.out]; exact hr3)
  · have HE : RowKit.Hid (sinhF f = f) := Lib.hid (by unfold sinhF; rw [h1, hx.nan_of h1]; rfl)
    rw [h1] at q1
    go_enter Tryd.func19, Tryd.ntmps19
    go_wp2
    go_ret
    exact RetF.mk0 (by rw [HE.out]; exact hx)
end
end Go.Proofs.YtndknkdfbjfjcaaDoor
