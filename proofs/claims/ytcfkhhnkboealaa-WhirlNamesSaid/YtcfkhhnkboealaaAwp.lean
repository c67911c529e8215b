/- Units, nearness, and the examples that the laws of roots ask (no table). -/
import Derived.Test.YtcfkhhnkboealaaRootC
namespace Go.Proofs.Ytcfkhhnkboealaa
open Go.RowKit
set_option linter.unusedVariables false
set_option linter.unusedSimpArgs false
set_option maxRecDepth 100000
set_option maxHeartbeats 4000000
section
variable {x y z t f g h k : Nat} (hx : Rep x f) (hy : Rep y g) (hz : Rep z h) (ht : Rep t k) (w : World)
include hx hy
theorem unitYes_c (h1 : (fin f && fin g) = true) (h2 : feq (greatF f g) 0 = false) : Calls Try.prog 50 #[.complex .f64 x y] w (RetCB (unitX f g) (unitY f g) true w) := by
  have H1 := Lib.hid h1
  have H2 := Lib.hid h2
  have UX := Lib.hid (unitX.eq_1 f g)
  have UY := Lib.hid (unitY.eq_1 f g)
  clear h1 h2
  go_enter Try.func50, Try.ntmps50
  go_wp2_with (first | (go_at_call 61; (with_reducible refine (cfinite_c hx hy _).mono ?_); rw [H1.out]; rintro e w' ⟨n1, rfl, rfl⟩) | (go_at_call 105; (with_reducible refine (greatest_c hx hy _).mono ?_); rintro e w' ⟨r, n, rfl, hr, rfl⟩; have q := hr.eq' Rep.c0; rw [H2.out] at q) | (go_at_call 106; (with_reducible refine (scaled_c hx hy _).mono ?_); rintro e w' ⟨r1, r2, n, rfl, hr1, hr2, rfl⟩) | (go_at_call 51; (with_reducible refine (square_c hr1 hr2 _).mono ?_); rintro e w' ⟨r3, n, rfl, hr3, rfl⟩) | (go_at_call 107; (with_reducible refine (sqrt_c hr3 _).mono ?_); rintro e w' ⟨r4, n, rfl, hr4, rfl⟩))
  go_ret2
  exact RetCB.mk _ (by rw [UX.out]; exact hr1.quo hr4) (by rw [UY.out]; exact hr2.quo hr4) rfl
theorem unitNo1_c (h1 : (fin f && fin g) = false) : Calls Try.prog 50 #[.complex .f64 x y] w (RetCB 0 0 false w) := by
  have H1 := Lib.hid h1
  clear h1
  go_enter Try.func50, Try.ntmps50
  go_wp2_with (first | (go_at_call 61; (with_reducible refine (cfinite_c hx hy _).mono ?_); rw [H1.out]; rintro e w' ⟨n1, rfl, rfl⟩))
  go_ret2
  exact RetCB.mk _ Rep.c0 Rep.c0 rfl
theorem unitNo2_c (h1 : (fin f && fin g) = true) (h2 : feq (greatF f g) 0 = true) : Calls Try.prog 50 #[.complex .f64 x y] w (RetCB 0 0 false w) := by
  have H1 := Lib.hid h1
  have H2 := Lib.hid h2
  clear h1 h2
  go_enter Try.func50, Try.ntmps50
  go_wp2_with (first | (go_at_call 61; (with_reducible refine (cfinite_c hx hy _).mono ?_); rw [H1.out]; rintro e w' ⟨n1, rfl, rfl⟩) | (go_at_call 105; (with_reducible refine (greatest_c hx hy _).mono ?_); rintro e w' ⟨r, n, rfl, hr, rfl⟩; have q := hr.eq' Rep.c0; rw [H2.out] at q))
  go_ret2
  exact RetCB.mk _ Rep.c0 Rep.c0 rfl
/-- where a number has a unit. -/
def unitB (f g : Nat) : Bool := fin f && fin g && !feq (greatF f g) 0
theorem unit_c : Calls Try.prog 50 #[.complex .f64 x y] w (RetCB (if unitB f g then unitX f g else 0) (if unitB f g then unitY f g else 0) (unitB f g) w) := by
  have e : unitB f g = (fin f && fin g && !feq (greatF f g) 0) := rfl
  cases h1 : fin f && fin g
  · rw [e, h1]; exact unitNo1_c hx hy w h1
  · cases h2 : feq (greatF f g) 0
    · rw [e, h1, h2]; exact unitYes_c hx hy w h1 h2
    · rw [e, h1, h2]; exact unitNo2_c hx hy w h1 h2
include hz ht
theorem refCSame_c : Calls Try.prog 113 #[.complex .f64 x y, .complex .f64 z t] w (RetB ((f == h) && (g == k)) w) := by
  cases h1 : (f == h)
  all_goals
    have H1 := Lib.hid h1
    clear h1
    go_enter Try.func113, Try.ntmps113
    go_wp2_with (first | (go_at_call 13; (with_reducible refine (refSame_c hx hz _).mono ?_); rw [H1.out]; rintro e w' ⟨n, rfl, rfl⟩) | (go_at_call 13; (with_reducible refine (refSame_c hy ht _).mono ?_); rintro e w' ⟨n, rfl, rfl⟩))
    go_ret
    exact RetB.mk _ (by simp)
theorem near_c {v m : Nat} (hv : Rep v m) : Calls Try.prog 54 #[.complex .f64 x y, .complex .f64 z t, .float .f64 v] w (RetB (fle (lenF (fsub f h) (fsub g k)) m) w) := by
  cases h1 : fle (lenF (fsub f h) (fsub g k)) m
  all_goals
    have H1 := Lib.hid h1
    clear h1
    go_enter Try.func54, Try.ntmps54
    go_wp2_with (first | (go_at_call 116; (with_reducible refine (csub_c hx hy hz ht _).mono ?_); rintro e w' ⟨r4, r5, n4, rfl, hr4, hr5, rfl⟩) | (go_at_call 39; (with_reducible refine (length_c hr4 hr5 _).mono ?_); rintro e w' ⟨r, n, rfl, hr, rfl⟩; have q := hr.le' hv; rw [H1.out] at q))
    go_ret
    exact RetB.mk _ rfl
end
theorem Rep.lit6 {f : Nat} (h : f < 18446744073709551616) (hn : isN f = false) : Rep f f := Rep.self h (nrm_of_not hn)
theorem aw_unit : unitB 4613937818241073152 13839561654909534208 = true ∧ unitX 4613937818241073152 13839561654909534208 = 4603579539098121011 ∧ unitY 4613937818241073152 13839561654909534208 = 13828753015803845018 ∧ unitB 0 0 = false := by decide +kernel
theorem aw_len : lenF 4613937818241073152 4616189618054758400 = 4617315517961601024 ∧ lenF 0 1 = 1 ∧ fle (lenF (fsub 4607182418800017408 4607182418800017408) (fsub 0 4607182418800017408)) 4607182418800017408 = true ∧ sqF 4607182418800017408 4611686018427387904 = 4617315517961601024 := by decide +kernel
theorem aw_root : rootX 4613937818241073152 4616189618054758400 = 4611686018427387904 ∧ rootY 4613937818241073152 4616189618054758400 = 4607182418800017408 ∧ rootX 13839561654909534208 0 = 0 ∧ rootY 13839561654909534208 0 = 4611686018427387904 ∧ rootX 13839561654909534208 9223372036854775808 = 0 ∧ rootY 13839561654909534208 9223372036854775808 = 13835058055282163712 ∧ rootX 0 9223372036854775808 = 0 ∧ rootY 0 9223372036854775808 = 9223372036854775808 := by decide +kernel
theorem number6_c (a b : Nat) (w : World) : Calls Try.prog 35 #[.agg #[.int .u64 (a : Int), .int .u64 (b : Int)]] w (fun e w' => e = .returned (.complex .f64 a b) ∧ Grown w w') := by
  go_enter Try.func35, Try.ntmps35
  go_wp2
  go_region_with (fail)
  all_goals go_wp2
  all_goals go_ret
  all_goals exact ⟨rfl, by repeat (first | exact Grown.refl _ | apply Grown.drew | apply Grown.alloc | apply grown_drewN')⟩
theorem same6_c {x y z t f g h k : Nat} (hx : Rep x f) (hy : Rep y g) (hz : Rep z h) (ht : Rep t k) (w : World) : Calls Try.prog 49 #[.complex .f64 x y, .complex .f64 z t] w (RetB ((f == h) && (g == k)) w) := by
  go_enter Try.func49, Try.ntmps49
  go_wp2_with (first | (go_at_call 113; (with_reducible refine (refCSame_c hx hy hz ht _).mono ?_); rintro e w' ⟨n, rfl, rfl⟩))
  go_ret
  exact RetB.mk _ rfl
theorem awake_c (w : World) : Calls Try.prog 34 #[] w (RetB true w) := by
  have U := Lib.hid aw_unit
  have L := Lib.hid aw_len
  have R := Lib.hid aw_root
  have r3 : Rep 4613937818241073152 4613937818241073152 := Rep.lit6 (by decide) (by decide +kernel)
  have rm4 : Rep 13839561654909534208 13839561654909534208 := Rep.lit6 (by decide) (by decide +kernel)
  have r4 : Rep 4616189618054758400 4616189618054758400 := Rep.lit6 (by decide) (by decide +kernel)
  have r2 : Rep 4611686018427387904 4611686018427387904 := Rep.lit6 (by decide) (by decide +kernel)
  have rm2 : Rep 13835058055282163712 13835058055282163712 := Rep.lit6 (by decide) (by decide +kernel)
  have rz : Rep 9223372036854775808 9223372036854775808 := Rep.lit6 (by decide) (by decide +kernel)
  have o5 : (FloatKind.f64.format.order 4617315517961601024 4617315517961601024 == some .eq) = true := by decide +kernel
  have o1 : (FloatKind.f64.format.order 1 1 == some .eq) = true := by decide +kernel
  have o6 : (FloatKind.f64.format.order 4603579539098121011 4603579539098121011 == some .eq) = true := by decide +kernel
  have o8 : (FloatKind.f64.format.order 13828753015803845018 13828753015803845018 == some .eq) = true := by decide +kernel
  go_enter Try.func34, Try.ntmps34
  go_wp2_with (first | (go_at_call 84; (with_reducible refine (copysign_c Rep.c0 Rep.none1 _ (by decide +kernel) (by decide +kernel)).mono ?_); rw [show copyF 0 13830554455654793216 = 9223372036854775808 by decide +kernel]; rintro e w' ⟨r, n, rfl, hr, rfl⟩; obtain rfl : r = 9223372036854775808 := hr.eq_of (by decide +kernel)) | (go_at_call 50; (with_reducible refine (unit_c r3 rm4 _).mono ?_); rw [U.out.1, if_pos rfl, if_pos rfl, U.out.2.1, U.out.2.2.1]; rintro e w' ⟨u1, u2, n, rfl, hu1, hu2, rfl⟩; obtain rfl := hu1.eq_of (by decide +kernel); obtain rfl := hu2.eq_of (by decide +kernel)) | (go_at_call 50; (with_reducible refine (unit_c Rep.c0 Rep.c0 _).mono ?_); rw [U.out.2.2.2]; rintro e w' ⟨u3, u4, n, rfl, hu3, hu4, rfl⟩) | (go_at_call 39; (with_reducible refine (length_c r3 r4 _).mono ?_); rw [L.out.1]; rintro e w' ⟨r, n, rfl, hr, rfl⟩; obtain rfl := hr.eq_of (by decide +kernel)) | (go_at_call 39; (with_reducible refine (length_c Rep.c0 Rep.c1 _).mono ?_); rw [L.out.2.1]; rintro e w' ⟨r, n, rfl, hr, rfl⟩; obtain rfl := hr.eq_of (by decide +kernel)) | (go_at_call 44; (with_reducible refine (root_c r3 r4 _).mono ?_); rw [R.out.1, R.out.2.1]; rintro e w' ⟨r, s, n, rfl, hr, hs, rfl⟩; obtain rfl := hr.eq_of (by decide +kernel); obtain rfl := hs.eq_of (by decide +kernel)) | (go_at_call 44; (with_reducible refine (root_c rm4 Rep.c0 _).mono ?_); rw [R.out.2.2.1, R.out.2.2.2.1]; rintro e w' ⟨r, s, n, rfl, hr, hs, rfl⟩; obtain rfl := hr.eq_of (by decide +kernel); obtain rfl := hs.eq_of (by decide +kernel)) | (go_at_call 44; (with_reducible refine (root_c rm4 rz _).mono ?_); rw [R.out.2.2.2.2.1, R.out.2.2.2.2.2.1]; rintro e w' ⟨r, s, n, rfl, hr, hs, rfl⟩; obtain rfl := hr.eq_of (by decide +kernel); obtain rfl := hs.eq_of (by decide +kernel)) | (go_at_call 44; (with_reducible refine (root_c Rep.c0 rz _).mono ?_); rw [R.out.2.2.2.2.2.2.1, R.out.2.2.2.2.2.2.2]; rintro e w' ⟨r, s, n, rfl, hr, hs, rfl⟩; obtain rfl := hr.eq_of (by decide +kernel); obtain rfl := hs.eq_of (by decide +kernel)) | (go_at_call 49; (with_reducible refine (same6_c r2 Rep.cone r2 Rep.cone _).mono ?_); rw [beq_self_eq_true, beq_self_eq_true]; rintro e w' ⟨n, rfl, rfl⟩) | (go_at_call 49; (with_reducible refine (same6_c Rep.c0 r2 Rep.c0 r2 _).mono ?_); rw [beq_self_eq_true, beq_self_eq_true]; rintro e w' ⟨n, rfl, rfl⟩) | (go_at_call 49; (with_reducible refine (same6_c Rep.c0 rm2 Rep.c0 rm2 _).mono ?_); rw [beq_self_eq_true, beq_self_eq_true]; rintro e w' ⟨n, rfl, rfl⟩) | (go_at_call 49; (with_reducible refine (same6_c Rep.c0 rz Rep.c0 rz _).mono ?_); rw [beq_self_eq_true, beq_self_eq_true]; rintro e w' ⟨n, rfl, rfl⟩) | (go_at_call 54; (with_reducible refine (near_c Rep.cone Rep.c0 Rep.cone Rep.cone _ Rep.cone).mono ?_); rw [L.out.2.2.1]; rintro e w' ⟨n, rfl, rfl⟩) | (go_at_call 51; (with_reducible refine (square_c Rep.cone r2 _).mono ?_); rw [L.out.2.2.2]; rintro e w' ⟨r, n, rfl, hr, rfl⟩; obtain rfl := hr.eq_of (by decide +kernel)))
  go_ret
  exact RetB.mk _ rfl
end Go.Proofs.Ytcfkhhnkboealaa
