/- Closed facts on complex powers; a logarithm on any sheet. No condition. -/
import Derived.Test.YtojldamhdnmdpaaPow2
namespace Go.Proofs.Ytojldamhdnmdpaa
open Go.RowKit
set_option linter.unusedVariables false
set_option linter.unusedSimpArgs false
set_option maxRecDepth 100000
set_option maxHeartbeats 4000000
theorem Rep.lit7 {f : Nat} (h : f < 18446744073709551616) (hn : isN f = false) : Rep f f := Rep.self h (nrm_of_not hn)
def sheetOk (f g : Nat) (n : Int) : Bool := fin (clogX f g) && fin (clogY f g) && decide (-1048576 ≤ n) && decide (n ≤ 1048576)
section
variable {x y z t f g h k : Nat} (hx : Rep x f) (hy : Rep y g) (w : World)
include hx hy
theorem sheetYes_c (n : Int) (h1 : (fin (clogX f g) && fin (clogY f g)) = true) (h2 : -1048576 ≤ n) (h3 : n ≤ 1048576) : Calls Try.prog 35 #[.complex .f64 x y, .int .i64 n] w (RetCB (clogX f g) (fadd (clogY f g) (fmul (ofInt n) (fmul 4611686018427387904 4614256656552045848))) true w) := by
  have H1 := Lib.hid h1
  clear h1
  go_enter Try.func35, Try.ntmps35
  go_wp2_with (first | (go_at_call 16; (with_reducible refine (clog_c hx hy _).mono ?_); rintro e w' ⟨r, s, n1, rfl, hr, hs, rfl⟩) | (go_at_call 20; (with_reducible refine (cfinite_c hr hs _).mono ?_); rw [H1.out]; rintro e w' ⟨n2, rfl, rfl⟩) | (go_at_call 28; (with_reducible refine (Pi_c _).mono ?_); rintro e w' ⟨p1, p2, n3, rfl, hp1, hp2, rfl⟩))
  go_ret2
  exact RetCB.mk _ hr (hs.add ((ofInt_rep n).mul (Rep.two.mul hp1))) rfl
theorem sheetNo_c (n : Int) (h1 : (fin (clogX f g) && fin (clogY f g)) = false) : Calls Try.prog 35 #[.complex .f64 x y, .int .i64 n] w (RetCB 0 0 false w) := by
  have H1 := Lib.hid h1
  clear h1
  go_enter Try.func35, Try.ntmps35
  go_wp2_with (first | (go_at_call 16; (with_reducible refine (clog_c hx hy _).mono ?_); rintro e w' ⟨r, s, n1, rfl, hr, hs, rfl⟩) | (go_at_call 20; (with_reducible refine (cfinite_c hr hs _).mono ?_); rw [H1.out]; rintro e w' ⟨n2, rfl, rfl⟩))
  go_ret2
  exact RetCB.mk _ Rep.c0 Rep.c0 rfl
theorem sheetFar_c (n : Int) (h1 : (fin (clogX f g) && fin (clogY f g)) = true) (h2 : 1048576 < n) : Calls Try.prog 35 #[.complex .f64 x y, .int .i64 n] w (RetCB 0 0 false w) := by
  have H1 := Lib.hid h1
  clear h1
  go_enter Try.func35, Try.ntmps35
  go_wp2_with (first | (go_at_call 16; (with_reducible refine (clog_c hx hy _).mono ?_); rintro e w' ⟨r, s, n1, rfl, hr, hs, rfl⟩) | (go_at_call 20; (with_reducible refine (cfinite_c hr hs _).mono ?_); rw [H1.out]; rintro e w' ⟨n2, rfl, rfl⟩))
  go_ret2
  exact RetCB.mk _ Rep.c0 Rep.c0 rfl
end
theorem k0x : cexpX 0 0 = 4607182418800017408 := by decide +kernel
theorem k0y : cexpY 0 0 = 0 := by decide +kernel
theorem k1x : cexpX 0 9223372036854775808 = 4607182418800017408 := by decide +kernel
theorem k1y : cexpY 0 9223372036854775808 = 9223372036854775808 := by decide +kernel
theorem k2x : cexpX 4650248090236747776 0 = 9218868437227405312 := by decide +kernel
theorem k2y : cexpY 4650248090236747776 0 = 0 := by decide +kernel
theorem k3x : cexpX 18442240474082181120 4617315517961601024 = 0 := by decide +kernel
theorem k3y : cexpY 18442240474082181120 4617315517961601024 = 9223372036854775808 := by decide +kernel
theorem k4x : clogX 4607182418800017408 0 = 0 := by decide +kernel
theorem k4y : clogY 4607182418800017408 0 = 0 := by decide +kernel
theorem k5x : clogX 13830554455654793216 9223372036854775808 = 0 := by decide +kernel
theorem k5y : clogY 13830554455654793216 9223372036854775808 = 13837628693406821656 := by decide +kernel
theorem k6x : clogX 0 0 = 18442240474082181120 := by decide +kernel
theorem k6y : clogY 0 0 = 0 := by decide +kernel
theorem k7x : clogX 0 4611686018427387904 = 4604418534313441775 := by decide +kernel
theorem k7y : clogY 0 4611686018427387904 = 4609753056924675352 := by decide +kernel
theorem k8x : crealX nanB 0 0 = 4607182418800017408 := by decide +kernel
theorem k8y : crealY nanB 0 0 = 0 := by decide +kernel
theorem k9x : crealX 0 0 4611686018427387904 = 0 := by decide +kernel
theorem k9y : crealY 0 0 4611686018427387904 = 0 := by decide +kernel
theorem k10x : cpowX 4611686018427387904 0 0 0 = 4607182418800017408 := by decide +kernel
theorem k10y : cpowY 4611686018427387904 0 0 0 = 0 := by decide +kernel
theorem k11x : fmul (turnS 0) (coshF 0) = 0 := by decide +kernel
theorem k11y : fmul (turnC 0) (sinhF 0) = 0 := by decide +kernel
theorem k12x : fmul (turnC 0) (coshF 0) = 4607182418800017408 := by decide +kernel
theorem k12y : fneg (fmul (turnS 0) (sinhF 0)) = 9223372036854775808 := by decide +kernel
theorem k13x : fmul (turnC 9223372036854775808) (sinhF 0) = 0 := by decide +kernel
theorem k13y : fmul (turnS 9223372036854775808) (coshF 0) = 9223372036854775808 := by decide +kernel
theorem k14x : fmul (turnC 0) (coshF 0) = 4607182418800017408 := by decide +kernel
theorem k14y : fmul (turnS 0) (sinhF 0) = 0 := by decide +kernel
theorem kL2 : logF 4611686018427387904 = 4604418534313441775 := by decide +kernel
theorem kS1 : (fin (clogX 4607182418800017408 0) && fin (clogY 4607182418800017408 0)) = true := by decide +kernel
theorem kS2 : (fin (clogX 0 0) && fin (clogY 0 0)) = false := by decide +kernel
theorem kS3 : clogX 4607182418800017408 0 = 0 ∧ fadd (clogY 4607182418800017408 0) (fmul (ofInt 1) (fmul 4611686018427387904 4614256656552045848)) = 4618760256179416344 := by decide +kernel
end Go.Proofs.Ytojldamhdnmdpaa
