/- The examples that the laws of roots ask hold. -/
import Derived.Test.YtndknkdfbjfjcaaDoorSheet
namespace Go.Proofs.YtndknkdfbjfjcaaDoor
open Go.RowKit
set_option linter.unusedVariables false
set_option linter.unusedSimpArgs false
set_option maxRecDepth 100000
set_option maxHeartbeats 4000000
theorem Rep.lit6 {f : Nat} (h : f < 18446744073709551616) (hn : isN f = false) : Rep f f := Rep.self h (nrm_of_not hn)
theorem aw_unit : unitB 4613937818241073152 13839561654909534208 = true ∧ unitX 4613937818241073152 13839561654909534208 = 4603579539098121011 ∧ unitY 4613937818241073152 13839561654909534208 = 13828753015803845018 ∧ unitB 0 0 = false := by decide +kernel
theorem aw_len : lenF 4613937818241073152 4616189618054758400 = 4617315517961601024 ∧ lenF 0 1 = 1 ∧ fle (lenF (fsub 4607182418800017408 4607182418800017408) (fsub 0 4607182418800017408)) 4607182418800017408 = true ∧ sqF 4607182418800017408 4611686018427387904 = 4617315517961601024 := by decide +kernel
theorem aw_root : rootX 4613937818241073152 4616189618054758400 = 4611686018427387904 ∧ rootY 4613937818241073152 4616189618054758400 = 4607182418800017408 ∧ rootX 13839561654909534208 0 = 0 ∧ rootY 13839561654909534208 0 = 4611686018427387904 ∧ rootX 13839561654909534208 9223372036854775808 = 0 ∧ rootY 13839561654909534208 9223372036854775808 = 13835058055282163712 ∧ rootX 0 9223372036854775808 = 0 ∧ rootY 0 9223372036854775808 = 9223372036854775808 := by decide +kernel
/-- two pairs laid side by side read as they were laid. -/
theorem box4 (w : World) (a b c d : Value) (t : TypeId) : ∀ w' : World, Grown ((w.alloc (.cells #[a, b] t)).alloc (.cells #[c, d] t)) w' → w'.cell? ⟨w.heap.size, 0, none⟩ = some a ∧ w'.cell? ⟨w.heap.size, 1, none⟩ = some b ∧ w'.cell? ⟨w.heap.size + 1, 0, none⟩ = some c ∧ w'.cell? ⟨w.heap.size + 1, 1, none⟩ = some d := by
  intro w' h
  have hs1 : (w.alloc (.cells #[a, b] t)).heap.size = w.heap.size + 1 := size_alloc _ _
  have g2 := grown_box2 h
  rw [hs1] at g2
  have g0 : Grown (w.alloc (.cells #[a, b] t)) w' := gr_trans (gr_alloc (Grown.refl _) _ _) h
  have g1 := grown_box2 g0
  exact ⟨g1.1, g1.2.1, g2.1, g2.2.1⟩
theorem number6_c (a b : Nat) (w : World) : Calls Tryd.prog 45 #[.agg #[.int .u64 (a : Int), .int .u64 (b : Int)]] w (fun e w' => e = .returned (.complex .f64 a b) ∧ Grown w w') := by
  go_enter Tryd.func45, Tryd.ntmps45
  go_wp2
  go_region_with (fail)
  all_goals go_wp2
  all_goals go_ret
  all_goals exact ⟨rfl, by repeat (first | exact Grown.refl _ | apply Grown.drew | apply Grown.alloc | apply grown_drewN')⟩
theorem same6_c {x y z t f g h k : Nat} (hx : Rep x f) (hy : Rep y g) (hz : Rep z h) (ht : Rep t k) (w : World) : Calls Tryd.prog 54 #[.complex .f64 x y, .complex .f64 z t] w (RetB ((f == h) && (g == k)) w) := by
  go_enter Tryd.func54, Tryd.ntmps54
  go_wp2_with (first | (go_at_call 105; (with_reducible refine (refCSame_c hx hy hz ht _).mono ?_); rintro e w' ⟨n, rfl, rfl⟩))
  go_ret
  exact RetB.mk _ rfl
theorem awake_c (w : World) : Calls Tryd.prog 44 #[] w (RetB true w) := by
  have U := Lib.hid aw_unit
  have L := Lib.hid aw_len
  have R := Lib.hid aw_root
  have r3 : Rep 4613937818241073152 4613937818241073152 := Rep.lit6 (by decide) (by decide +kernel)
  have rm4 : Rep 13839561654909534208 13839561654909534208 := Rep.lit6 (by decide) (by decide +kernel)
  have r4 : Rep 4616189618054758400 4616189618054758400 := Rep.lit6 (by decide) (by decide +kernel)
  have r2 : Rep 4611686018427387904 4611686018427387904 := Rep.lit6 (by decide) (by decide +kernel)
  have rm2 : Rep 13835058055282163712 13835058055282163712 := Rep.lit6 (by decide) (by decide +kernel)
  have rz : Rep 9223372036854775808 9223372036854775808 := Rep.lit6 (by decide) (by decide +kernel)
  have o5 : (FloatKind.f64.format.order 4617315517961601024 4617315517961601024 == some .eq) = true := by decide +kernel
  have o1 : (FloatKind.f64.format.order 1 1 == some .eq) = true := by decide +kernel
  have o6 : (FloatKind.f64.format.order 4603579539098121011 4603579539098121011 == some .eq) = true := by decide +kernel
  have o8 : (FloatKind.f64.format.order 13828753015803845018 13828753015803845018 == some .eq) = true := by decide +kernel
  go_enter Tryd.func44, Tryd.ntmps44
  go_wp2_with (first | (go_at_call 93; (with_reducible refine (copysign_c Rep.c0 Rep.none1 _ (by decide +kernel) (by decide +kernel)).mono ?_); rw [show copyF 0 13830554455654793216 = 9223372036854775808 by decide +kernel]; rintro e w' ⟨r, n, rfl, hr, rfl⟩; obtain rfl : r = 9223372036854775808 := hr.eq_of (by decide +kernel)) | (go_at_call 48; (with_reducible refine (unit_c r3 rm4 _).mono ?_); rw [U.out.1, if_pos rfl, if_pos rfl, U.out.2.1, U.out.2.2.1]; rintro e w' ⟨u1, u2, n, rfl, hu1, hu2, rfl⟩; obtain rfl := hu1.eq_of (by decide +kernel); obtain rfl := hu2.eq_of (by decide +kernel)) | (go_at_call 48; (with_reducible refine (unit_c Rep.c0 Rep.c0 _).mono ?_); rw [U.out.2.2.2]; rintro e w' ⟨u3, u4, n, rfl, hu3, hu4, rfl⟩) | (go_at_call 50; (with_reducible refine (length_c r3 r4 _).mono ?_); rw [L.out.1]; rintro e w' ⟨r, n, rfl, hr, rfl⟩; obtain rfl := hr.eq_of (by decide +kernel)) | (go_at_call 50; (with_reducible refine (length_c Rep.c0 Rep.c1 _).mono ?_); rw [L.out.2.1]; rintro e w' ⟨r, n, rfl, hr, rfl⟩; obtain rfl := hr.eq_of (by decide +kernel)) | (go_at_call 55; (with_reducible refine (root_c r3 r4 _).mono ?_); rw [R.out.1, R.out.2.1]; rintro e w' ⟨r, s, n, rfl, hr, hs, rfl⟩; obtain rfl := hr.eq_of (by decide +kernel); obtain rfl := hs.eq_of (by decide +kernel)) | (go_at_call 55; (with_reducible refine (root_c rm4 Rep.c0 _).mono ?_); rw [R.out.2.2.1, R.out.2.2.2.1]; rintro e w' ⟨r, s, n, rfl, hr, hs, rfl⟩; obtain rfl := hr.eq_of (by decide +kernel); obtain rfl := hs.eq_of (by decide +kernel)) | (go_at_call 55; (with_reducible refine (root_c rm4 rz _).mono ?_); rw [R.out.2.2.2.2.1, R.out.2.2.2.2.2.1]; rintro e w' ⟨r, s, n, rfl, hr, hs, rfl⟩; obtain rfl := hr.eq_of (by decide +kernel); obtain rfl := hs.eq_of (by decide +kernel)) | (go_at_call 55; (with_reducible refine (root_c Rep.c0 rz _).mono ?_); rw [R.out.2.2.2.2.2.2.1, R.out.2.2.2.2.2.2.2]; rintro e w' ⟨r, s, n, rfl, hr, hs, rfl⟩; obtain rfl := hr.eq_of (by decide +kernel); obtain rfl := hs.eq_of (by decide +kernel)) | (go_at_call 54; (with_reducible refine (same6_c r2 Rep.cone r2 Rep.cone _).mono ?_); rw [beq_self_eq_true, beq_self_eq_true]; rintro e w' ⟨n, rfl, rfl⟩) | (go_at_call 54; (with_reducible refine (same6_c Rep.c0 r2 Rep.c0 r2 _).mono ?_); rw [beq_self_eq_true, beq_self_eq_true]; rintro e w' ⟨n, rfl, rfl⟩) | (go_at_call 54; (with_reducible refine (same6_c Rep.c0 rm2 Rep.c0 rm2 _).mono ?_); rw [beq_self_eq_true, beq_self_eq_true]; rintro e w' ⟨n, rfl, rfl⟩) | (go_at_call 54; (with_reducible refine (same6_c Rep.c0 rz Rep.c0 rz _).mono ?_); rw [beq_self_eq_true, beq_self_eq_true]; rintro e w' ⟨n, rfl, rfl⟩) | (go_at_call 60; (with_reducible refine (near_c Rep.cone Rep.c0 Rep.cone Rep.cone _ Rep.cone).mono ?_); rw [L.out.2.2.1]; rintro e w' ⟨n, rfl, rfl⟩) | (go_at_call 52; (with_reducible refine (square_c Rep.cone r2 _).mono ?_); rw [L.out.2.2.2]; rintro e w' ⟨r, n, rfl, hr, rfl⟩; obtain rfl := hr.eq_of (by decide +kernel)))
  go_ret
  exact RetB.mk _ rfl
end Go.Proofs.YtndknkdfbjfjcaaDoor
