/- The law's own check on a few closed examples answers true. No condition. -/
import Derived.Test.YtpdhmehjlmohcaaSum
namespace Go.Proofs.Ytpdhmehjlmohcaa
open Go.RowKit
set_option linter.unusedVariables false
set_option maxRecDepth 100000
theorem grown_drewN' {w w' : World} (n : Nat) (h : Grown w w') : Grown w (w'.drewN n) := h
theorem alive_c (w : World) : Calls Try.prog 31 #[] w fun e w' => e = .returned (.bool true) ∧ Grown w w' := by
  have r1 : Rep 4607182418800017408 4607182418800017408 := Rep.self (by decide) (by decide +kernel)
  have r2 : Rep 4845873199050653696 4845873199050653696 := Rep.self (by decide) (by decide +kernel)
  have r3 : Rep 4622945017495814144 4622945017495814144 := Rep.self (by decide) (by decide +kernel)
  have r4 : Rep 4611686018427387904 4611686018427387904 := Rep.self (by decide) (by decide +kernel)
  have r5 : Rep 4613937818241073152 4613937818241073152 := Rep.self (by decide) (by decide +kernel)
  go_enter Try.func31, Try.ntmps31
  go_wp2_with (first
    | (go_at_call 25; refine (exact_c r1 r2 _).mono ?_; rintro e w' ⟨r, s, n, rfl, hr, hs, rfl⟩; have q1 := hr.eq' r2; have q2 := hs.eq' r1; rw [show feq (fadd 4607182418800017408 4845873199050653696) 4845873199050653696 = true by decide +kernel] at q1; rw [show feq (lostF 4607182418800017408 4845873199050653696) 4607182418800017408 = true by decide +kernel] at q2)
    | (go_at_call 41; refine (parts_c r3 _).mono ?_; rintro e w' ⟨r, n, rfl, hr, rfl⟩; have q3 := hr.eq' (show Rep 4604930618986332160 4604930618986332160 from Rep.self (by decide) (by decide +kernel)); rw [show feq (partF 4622945017495814144) 4604930618986332160 = true by decide +kernel] at q3; rw [show partE 4622945017495814144 = 4 by decide +kernel])
    | (go_at_call 29; refine (up_c r1 _).mono ?_; rintro e w' ⟨r, n, rfl, hr, rfl⟩; have q4 := hr.eq' (show Rep 4607182418800017409 4607182418800017409 from Rep.self (by decide) (by decide +kernel)); rw [show feq (upF 4607182418800017408) 4607182418800017409 = true by decide +kernel] at q4))
  refine (sum_c _ 0 3 3 [4607182418800017408, 4611686018427387904, 4613937818241073152] [4607182418800017408, 4611686018427387904, 4613937818241073152] _ (by decide) (by decide) (by decide) rfl ?_ ?_).mono ?_
  · intro j hj
    have hj' : j = 0 ∨ j = 1 ∨ j = 2 := by omega
    rcases hj' with rfl | rfl | rfl <;> simp [World.cell?, World.alloc, World.drewN]
  · intro j hj
    have hj' : j = 0 ∨ j = 1 ∨ j = 2 := by omega
    rcases hj' with rfl | rfl | rfl
    · exact r1
    · exact r4
    · exact r5
  rintro e w' ⟨r, n, rfl, hr, rfl⟩
  have q5 := hr.eq' (show Rep 4618441417868443648 4618441417868443648 from Rep.self (by decide) (by decide +kernel))
  rw [show feq (sumF [4607182418800017408, 4611686018427387904, 4613937818241073152]) 4618441417868443648 = true by decide +kernel] at q5
  go_wp2
  go_ret
  exact ⟨rfl, grown_drewN' n ((grown_drewN w _).alloc _ _)⟩
end Go.Proofs.Ytpdhmehjlmohcaa
