/- The law's own check on a few closed examples of exponentials and logarithms answers true. No condition. -/
import Derived.Test.YtcfkhhnkboealaaDoorExl
namespace Go.Proofs.YtcfkhhnkboealaaDoor
open Go.RowKit
set_option linter.unusedVariables false
set_option linter.unusedSimpArgs false
set_option maxRecDepth 100000
set_option maxHeartbeats 4000000

theorem elem_closed : feq (expF 0) 4607182418800017408 = true ∧ feq (logF 4607182418800017408) 0 = true ∧ flt 4613302810693613912 (expF 4607182418800017408) = true ∧ flt (expF 4607182418800017408) 4613305062493427597 = true ∧ flt 4612366061971120849 (logF 4621819117588971520) = true ∧ flt (logF 4621819117588971520) 4612368313770934534 = true := by decide +kernel
theorem Rep.c10 : Rep 4621819117588971520 4621819117588971520 := Rep.self (by decide) (by decide +kernel)
theorem Rep.ce1 : Rep 4613302810693613912 4613302810693613912 := Rep.self (by decide) (by decide +kernel)
theorem Rep.ce2 : Rep 4613305062493427597 4613305062493427597 := Rep.self (by decide) (by decide +kernel)
theorem Rep.ce3 : Rep 4612366061971120849 4612366061971120849 := Rep.self (by decide) (by decide +kernel)
theorem Rep.ce4 : Rep 4612368313770934534 4612368313770934534 := Rep.self (by decide) (by decide +kernel)
theorem elemAlive_c (w : World) : Calls Tryd.prog 8 #[] w (RetB true w) := by
  have C := Lib.hid elem_closed
  go_enter Tryd.func8, Tryd.ntmps8
  go_wp2_with (first | (go_at_call 18; (with_reducible refine (exp_c Rep.c0 _).mono ?_); rintro e w' ⟨r1, n, rfl, hr1, rfl⟩; have q1 := hr1.eq' Rep.cone; rw [C.out.1] at q1) | (go_at_call 10; (with_reducible refine (log_c Rep.cone _).mono ?_); rintro e w' ⟨r2, n, rfl, hr2, rfl⟩; have q2 := hr2.eq' Rep.c0; rw [C.out.2.1] at q2) | (go_at_call 18; (with_reducible refine (exp_c Rep.cone _).mono ?_); rintro e w' ⟨r3, n, rfl, hr3, rfl⟩; have q3 := hr3.gt' Rep.ce1; have q3b := hr3.lt' Rep.ce2; rw [C.out.2.2.1] at q3; rw [C.out.2.2.2.1] at q3b) | (go_at_call 10; (with_reducible refine (log_c Rep.c10 _).mono ?_); rintro e w' ⟨r5, n, rfl, hr5, rfl⟩; have q5 := hr5.gt' Rep.ce3; have q5b := hr5.lt' Rep.ce4; rw [C.out.2.2.2.2.1] at q5; rw [C.out.2.2.2.2.2] at q5b))
  go_ret
  exact RetB.mk _ rfl
end Go.Proofs.YtcfkhhnkboealaaDoor
