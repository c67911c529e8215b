/- Complex sines and cosines, the plain ones and the hyperbolic ones; the law's own checks. No condition. -/
import Derived.Test.YtcfkhhnkboealaaBent
import Derived.Test.YtcfkhhnkboealaaMirC
namespace Go.Proofs.Ytcfkhhnkboealaa
open Go.RowKit
set_option linter.unusedVariables false
set_option linter.unusedSimpArgs false
set_option maxRecDepth 100000
set_option maxHeartbeats 4000000
section
variable {x y z t f g h k : Nat} (hx : Rep x f) (hy : Rep y g) (hz : Rep z h) (ht : Rep t k) (w : World)
include hx hy
theorem is7_c (h1 : isN f = false) (h2 : isN g = false) : Calls Try.prog 118 #[.complex .f64 x y, .float .f64 x, .float .f64 y] w (RetB true w) := by
  have q1 := hx.eq' hx
  have q2 := hy.eq' hy
  rw [feq_self, h1] at q1
  rw [feq_self, h2] at q2
  have H1 := Lib.hid h1
  have H2 := Lib.hid h2
  clear h1 h2
  go_enter Try.func118, Try.ntmps118
  go_wp2_with (first | (go_at_call 20; (with_reducible refine (signbit_c hx _).mono ?_); rintro e w' ⟨n, rfl, rfl⟩) | (go_at_call 20; (with_reducible refine (signbit_c hy _).mono ?_); rintro e w' ⟨n, rfl, rfl⟩))
  go_ret
  exact RetB.mk _ (by simp)
include hz ht
end
theorem number7_c (a b : Nat) (w : World) : Calls Try.prog 56 #[.agg #[.int .u64 (a : Int), .int .u64 (b : Int)]] w (fun e w' => e = .returned (.complex .f64 a b) ∧ Grown w w') := by
  go_enter Try.func56, Try.ntmps56
  go_wp2
  go_region_with (fail)
  all_goals go_wp2
  all_goals go_ret
  all_goals exact ⟨rfl, by repeat (first | exact Grown.refl _ | apply Grown.drew | apply Grown.alloc | apply grown_drewN')⟩
theorem pow_closed : expF 4607182418800017408 < 9218868437227405312 ∧ cexpX 4607182418800017408 0 = expF 4607182418800017408 ∧ cexpY 4607182418800017408 0 = 0 ∧ flt 4613937818241073152 4614256656552045848 = true ∧ clogX 13830554455654793216 0 = 0 ∧ clogY 13830554455654793216 0 = 4614256656552045848 ∧ flt 4604480259023595110 (crealY 0 4607182418800017408 4602678819172646912) = true := by decide +kernel
theorem Rep.c3 : Rep 4613937818241073152 4613937818241073152 := Rep.self (by decide) (by decide +kernel)
theorem Rep.c07 : Rep 4604480259023595110 4604480259023595110 := Rep.self (by decide) (by decide +kernel)
theorem alive7_c (w : World) : Calls Try.prog 55 #[] w (fun e w' => e = .returned (.bool true) ∧ Grown w w') := by
  have C := Lib.hid pow_closed
  have q1 : (FloatKind.f64.format.order 4614256656552045848 4613937818241073152 == some .gt) = true := by decide +kernel
  obtain ⟨E, hE⟩ : ∃ E, E = expF 4607182418800017408 := ⟨_, rfl⟩
  have HE := Lib.hid hE
  have HN : RowKit.Hid (isN E = false) := Lib.hid (num_pos (by rw [hE]; have := C.out.1; omega))
  clear hE
  go_enter Try.func55, Try.ntmps55
  go_wp2_with (first | (go_at_call 117; (with_reducible refine (Pi_c _).mono ?_); rintro e w' ⟨r1, r2, n, rfl, hr1, hr2, rfl⟩; obtain rfl := hr1.eq_of (by decide +kernel)) | (go_at_call 58; (with_reducible refine (cexp_c Rep.cone Rep.c0 _).mono ?_); rw [C.out.2.1, C.out.2.2.1, ← HE.out]; rintro e w' ⟨r3, r4, rfl, hr3, hr4, g1⟩; obtain rfl := hr3.eq_of HN.out; obtain rfl := hr4.eq_of (by decide +kernel)) | (go_at_call 119; (with_reducible refine (exp_c Rep.cone _).mono ?_); rw [← HE.out]; rintro e w' ⟨r5, n, rfl, hr5, rfl⟩; obtain rfl := hr5.eq_of HN.out) | (go_at_call 118; (with_reducible refine (is7_c hr3 hr4 _ HN.out (by decide +kernel)).mono ?_); rintro e w' ⟨n, rfl, rfl⟩) | (go_at_call 57; (with_reducible refine (clog_c Rep.none1 Rep.c0 _).mono ?_); rw [C.out.2.2.2.2.1, C.out.2.2.2.2.2.1]; rintro e w' ⟨r6, r7, n, rfl, hr6, hr7, rfl⟩; obtain rfl := hr6.eq_of (by decide +kernel); obtain rfl := hr7.eq_of (by decide +kernel)) | (go_at_call 118; (with_reducible refine (is7_c hr6 hr7 _ (by decide +kernel) (by decide +kernel)).mono ?_); rintro e w' ⟨n, rfl, rfl⟩) | (go_at_call 60; (with_reducible refine (creal_c Rep.c0 Rep.cone Rep.half _).mono ?_); rintro e w' ⟨r8, r9, rfl, hr8, hr9, g2⟩; have q2 := hr9.gt' Rep.c07; rw [C.out.2.2.2.2.2.2] at q2))
  go_ret
  exact ⟨rfl, grown_trans g1 g2⟩
end Go.Proofs.Ytcfkhhnkboealaa
