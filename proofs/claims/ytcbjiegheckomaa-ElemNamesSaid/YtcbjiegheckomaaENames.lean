/- Closed facts on exponentials and logarithms. -/
import Derived.Test.YtcbjiegheckomaaElemA
namespace Go.Proofs.Ytcbjiegheckomaa
open Go.RowKit
set_option linter.unusedVariables false
set_option linter.unusedSimpArgs false
set_option maxRecDepth 100000
set_option maxHeartbeats 4000000
theorem Rep.lit {f : Nat} (h : f < 18446744073709551616) (hn : isN f = false) : Rep f f := Rep.self h (nrm_of_not hn)
def noughtB (f : Nat) (m : Bool) : Bool := feq f 0 && (sgn f == m)
section
variable {x f : Nat} (hx : Rep x f) (w : World)
theorem nought_c (hx : Rep x f) (m : Bool) (hn : isN f = false) : Calls Try.prog 22 #[.float .f64 x, .bool m] w (RetB (noughtB f m) w) := by
  have e := hx.eq_of hn
  subst e
  have q1 := hx.eq' Rep.c0
  have HN := Lib.hid (noughtB.eq_1 x m)
  cases h : feq x 0
  · rw [h] at q1
    have H := Lib.hid h
    go_enter Try.func22, Try.ntmps22
    go_wp2
    go_ret
    exact RetB.mk0 (by rw [HN.out, H.out]; rfl)
  · rw [h] at q1
    have H := Lib.hid h
    go_enter Try.func22, Try.ntmps22
    go_wp2_with (first | (go_at_call 38; (with_reducible refine (signbit_c hx _).mono ?_); rintro e w' ⟨n, rfl, rfl⟩))
    go_ret
    exact RetB.mk _ (by rw [HN.out, H.out]; rfl)
end
theorem k_expF_9223372036854775808 : expF 9223372036854775808 = 4607182418800017408 := by decide +kernel
theorem k_expF_4649456441864749056 : expF 4649456441864749056 = 9218868437227405312 := by decide +kernel
theorem k_expF_13873145138068324352 : expF 13873145138068324352 = 0 := by decide +kernel
theorem k_expF_18442240474082181120 : expF 18442240474082181120 = 0 := by decide +kernel
theorem k_expF_n : expF nanB = nanB := by decide +kernel
theorem k_expF_9218868437227405312 : expF 9218868437227405312 = 9218868437227405312 := by decide +kernel
theorem k_logF_4607182418800017408 : logF 4607182418800017408 = 0 := by decide +kernel
theorem k_logF_0 : logF 0 = 18442240474082181120 := by decide +kernel
theorem k_logF_9223372036854775808 : logF 9223372036854775808 = 18442240474082181120 := by decide +kernel
theorem k_logF_13830554455654793216 : logF 13830554455654793216 = nanB := by decide +kernel
theorem k_logF_4611686018427387904 : logF 4611686018427387904 = 4604418534313441775 := by decide +kernel
theorem k_logF_4602678819172646912 : logF 4602678819172646912 = 13827790571168217583 := by decide +kernel
theorem k_logF_9218868437227405312 : logF 9218868437227405312 = 9218868437227405312 := by decide +kernel
theorem k_logF_18442240474082181120 : logF 18442240474082181120 = nanB := by decide +kernel
theorem k_lessE_0 : lessE 0 = 0 := by decide +kernel
theorem k_lessE_9223372036854775808 : lessE 9223372036854775808 = 9223372036854775808 := by decide +kernel
theorem k_lessE_18442240474082181120 : lessE 18442240474082181120 = 13830554455654793216 := by decide +kernel
theorem k_moreF_9223372036854775808 : moreF 9223372036854775808 = 9223372036854775808 := by decide +kernel
theorem k_moreF_13830554455654793216 : moreF 13830554455654793216 = 18442240474082181120 := by decide +kernel
theorem k_moreF_13835058055282163712 : moreF 13835058055282163712 = nanB := by decide +kernel
theorem k_moreF_9218868437227405312 : moreF 9218868437227405312 = 9218868437227405312 := by decide +kernel
theorem k_coshF_0 : coshF 0 = 4607182418800017408 := by decide +kernel
theorem k_coshF_18442240474082181120 : coshF 18442240474082181120 = 9218868437227405312 := by decide +kernel
theorem k_coshF_n : coshF nanB = nanB := by decide +kernel
theorem k_sinhF_9223372036854775808 : sinhF 9223372036854775808 = 9223372036854775808 := by decide +kernel
theorem k_sinhF_18442240474082181120 : sinhF 18442240474082181120 = 18442240474082181120 := by decide +kernel
theorem k_sinhF_n : sinhF nanB = nanB := by decide +kernel
end Go.Proofs.Ytcbjiegheckomaa
