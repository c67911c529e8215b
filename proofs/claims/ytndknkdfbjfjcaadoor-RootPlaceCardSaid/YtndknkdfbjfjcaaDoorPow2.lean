/- Complex sines and cosines, the plain ones and the hyperbolic ones; the law's own checks. No condition. -/
import Derived.Test.YtndknkdfbjfjcaaDoorBent0
import Derived.Test.YtndknkdfbjfjcaaDoorBent1
import Derived.Test.YtndknkdfbjfjcaaDoorMirC
namespace Go.Proofs.YtndknkdfbjfjcaaDoor
open Go.RowKit
set_option linter.unusedVariables false
set_option linter.unusedSimpArgs false
set_option maxRecDepth 100000
set_option maxHeartbeats 4000000
section
variable {x y z t f g h k : Nat} (hx : Rep x f) (hy : Rep y g) (hz : Rep z h) (ht : Rep t k) (w : World)
include hx hy
theorem csin_c : Calls Tryd.prog 34 #[.complex .f64 x y] w (RetCG (fmul (turnS f) (coshF g)) (fmul (turnC f) (sinhF g)) w) := by
  go_enter Tryd.func34, Tryd.ntmps34
  go_wp2_with (first | (go_at_call 81; (with_reducible refine (turn_c hx _).mono ?_); rintro e w' ⟨s, c, rfl, hs, hc, hg⟩) | (go_at_call 82; (with_reducible refine (bent0_c hs hc hy _).mono ?_); rintro e w' ⟨r1, r2, rfl, hr1, hr2, hg2⟩))
  go_ret
  exact ⟨_, _, rfl, hr1, hr2, grown_trans hg hg2⟩
theorem ccos_c : Calls Tryd.prog 36 #[.complex .f64 x y] w (RetCG (fmul (turnC f) (coshF g)) (fneg (fmul (turnS f) (sinhF g))) w) := by
  go_enter Tryd.func36, Tryd.ntmps36
  go_wp2_with (first | (go_at_call 81; (with_reducible refine (turn_c hx _).mono ?_); rintro e w' ⟨s, c, rfl, hs, hc, hg⟩) | (go_at_call 82; (with_reducible refine (bent0_c hc hs hy _).mono ?_); rintro e w' ⟨r1, r2, rfl, hr1, hr2, hg2⟩) | (go_at_call 85; (with_reducible refine (conj_c hr1 hr2 _).mono ?_); rintro e w' ⟨r3, r4, n, rfl, hr3, hr4, rfl⟩))
  go_ret
  exact ⟨_, _, rfl, hr3, hr4, grown_drewN' _ (grown_trans hg hg2)⟩
theorem csinh_c : Calls Tryd.prog 38 #[.complex .f64 x y] w (RetCG (fmul (turnC g) (sinhF f)) (fmul (turnS g) (coshF f)) w) := by
  go_enter Tryd.func38, Tryd.ntmps38
  go_wp2_with (first | (go_at_call 81; (with_reducible refine (turn_c hy _).mono ?_); rintro e w' ⟨s, c, rfl, hs, hc, hg⟩) | (go_at_call 82; (with_reducible refine (bent1_c hc hs hx _).mono ?_); rintro e w' ⟨r1, r2, rfl, hr1, hr2, hg2⟩))
  go_ret
  exact ⟨_, _, rfl, hr1, hr2, grown_trans hg hg2⟩
theorem ccosh_c : Calls Tryd.prog 40 #[.complex .f64 x y] w (RetCG (fmul (turnC g) (coshF f)) (fmul (turnS g) (sinhF f)) w) := by
  go_enter Tryd.func40, Tryd.ntmps40
  go_wp2_with (first | (go_at_call 81; (with_reducible refine (turn_c hy _).mono ?_); rintro e w' ⟨s, c, rfl, hs, hc, hg⟩) | (go_at_call 82; (with_reducible refine (bent0_c hc hs hx _).mono ?_); rintro e w' ⟨r1, r2, rfl, hr1, hr2, hg2⟩))
  go_ret
  exact ⟨_, _, rfl, hr1, hr2, grown_trans hg hg2⟩
include hz ht
end
theorem number7_c (a b : Nat) (w : World) : Calls Tryd.prog 32 #[.agg #[.int .u64 (a : Int), .int .u64 (b : Int)]] w (fun e w' => e = .returned (.complex .f64 a b) ∧ Grown w w') := by
  go_enter Tryd.func32, Tryd.ntmps32
  go_wp2
  go_region_with (fail)
  all_goals go_wp2
  all_goals go_ret
  all_goals exact ⟨rfl, by repeat (first | exact Grown.refl _ | apply Grown.drew | apply Grown.alloc | apply grown_drewN')⟩
theorem pow_closed : expF 4607182418800017408 < 9218868437227405312 ∧ cexpX 4607182418800017408 0 = expF 4607182418800017408 ∧ cexpY 4607182418800017408 0 = 0 ∧ flt 4613937818241073152 4614256656552045848 = true ∧ clogX 13830554455654793216 0 = 0 ∧ clogY 13830554455654793216 0 = 4614256656552045848 ∧ flt 4604480259023595110 (crealY 0 4607182418800017408 4602678819172646912) = true := by decide +kernel
theorem Rep.c3 : Rep 4613937818241073152 4613937818241073152 := Rep.self (by decide) (by decide +kernel)
theorem Rep.c07 : Rep 4604480259023595110 4604480259023595110 := Rep.self (by decide) (by decide +kernel)
end Go.Proofs.YtndknkdfbjfjcaaDoor
