/- The document's powers are the program's. -/
import Derived.Test.YtndknkdfbjfjcaaGreatDoorCxR2
import Derived.Test.YtndknkdfbjfjcaaGreatDoorLaid
namespace Go.Proofs.YtndknkdfbjfjcaaGreatDoor
open Go.RowKit
set_option linter.unusedVariables false
set_option linter.unusedSimpArgs false
set_option maxRecDepth 100000
set_option maxHeartbeats 4000000
theorem tabs7 {w w' : World} (G : Grown w w') (hT : TabAt w) (ht : 1 < w.heap.size) : TabAt w' ∧ 1 < w'.heap.size := ⟨gr_tab G hT ht, Nat.lt_of_lt_of_le ht G.2.2⟩
section
variable {x y z t f g h k : Nat} (hx : Rep x f) (hy : Rep y g) (hz : Rep z h) (ht : Rep t k) (w : World)
include hx hy hz
theorem refCscale_c : Calls Tryz.prog 29 #[.complex .f64 x y, .float .f64 z] w (RetC (fmul f h) (fmul g h) w) := by
  go_enter Tryz.func29, Tryz.ntmps29
  go_wp2_with (first | (go_at_call 20; (with_reducible refine (refMk_c (hx.mul hz) (hy.mul hz) _).mono ?_); rintro e w' ⟨r4, r5, n4, rfl, hr4, hr5, rfl⟩))
  go_ret
  exact RetC.mk _ hr4 hr5
theorem refCreal_c (hT : TabAt w) (htab : 1 < w.heap.size) : Calls Tryz.prog 12 #[.complex .f64 x y, .float .f64 z] w (RetCG (crealX f g h) (crealY f g h) w) := by
  have HX := Lib.hid (crealX.eq_1 f g h)
  have HY := Lib.hid (crealY.eq_1 f g h)
  have q := hz.eq' Rep.c0
  have HT := Lib.hid hT
  clear hT
  cases h1 : feq h 0
  · rw [h1] at q
    have H1 := Lib.hid h1
    clear h1
    go_enter Tryz.func12, Tryz.ntmps12
    go_wp2_with (first | (go_at_call 10; (with_reducible refine (refClog_c hx hy _ HT.out htab).mono ?_); rintro e w' ⟨r, s, rfl, hr, hs, g1⟩) | (go_at_call 29; (with_reducible refine (refCscale_c hr hs hz _).mono ?_); rintro e w' ⟨r2, s2, n2, rfl, hr2, hs2, rfl⟩) | (go_at_call 8; (with_reducible refine (refCexp_c hr2 hs2 _ (by exact (tabs7 (gr_drewN _ g1) HT.out htab).1) (by exact (tabs7 (gr_drewN _ g1) HT.out htab).2)).mono ?_); rintro e w' ⟨r3, s3, rfl, hr3, hs3, g2⟩))
    go_ret
    exact ⟨_, _, rfl, by rw [HX.out, H1.out]; exact hr3, by rw [HY.out, H1.out]; exact hs3, gr_trans (gr_drewN _ g1) g2⟩
  · rw [h1] at q
    have H1 := Lib.hid h1
    clear h1
    go_enter Tryz.func12, Tryz.ntmps12
    go_wp2
    go_ret
    exact ⟨_, _, rfl, by rw [HX.out, H1.out]; exact Rep.cone, by rw [HY.out, H1.out]; exact Rep.c0, Grown.refl w⟩
include ht
theorem refCmul_c : Calls Tryz.prog 31 #[.complex .f64 x y, .complex .f64 z t] w (RetC (mulX f g h k) (mulY f g h k) w) := by
  go_enter Tryz.func31, Tryz.ntmps31
  go_wp2_with (first | (go_at_call 20; (with_reducible refine (refMk_c ((hx.mul hz).sub (hy.mul ht)) ((hx.mul ht).add (hy.mul hz)) _).mono ?_); rintro e w' ⟨r4, r5, n4, rfl, hr4, hr5, rfl⟩))
  go_ret
  exact RetC.mk _ hr4 hr5
theorem refCpow_c (hT : TabAt w) (htab : 1 < w.heap.size) : Calls Tryz.prog 14 #[.complex .f64 x y, .complex .f64 z t] w (RetCG (cpowX f g h k) (cpowY f g h k) w) := by
  have HX := Lib.hid (cpowX.eq_1 f g h k)
  have HY := Lib.hid (cpowY.eq_1 f g h k)
  have q := hz.eq' Rep.c0
  have q2 := ht.eq' Rep.c0
  have HT := Lib.hid hT
  clear hT
  cases h1 : feq h 0 <;> cases h2 : feq k 0
  all_goals
    rw [h1] at q
    rw [h2] at q2
    have H1 := Lib.hid h1
    have H2 := Lib.hid h2
    clear h1 h2
    go_enter Tryz.func14, Tryz.ntmps14
    go_wp2_with (first | (go_at_call 10; (with_reducible refine (refClog_c hx hy _ HT.out htab).mono ?_); rintro e w' ⟨r, s, rfl, hr, hs, g1⟩) | (go_at_call 31; (with_reducible refine (refCmul_c hz ht hr hs _).mono ?_); rintro e w' ⟨r2, s2, n2, rfl, hr2, hs2, rfl⟩) | (go_at_call 8; (with_reducible refine (refCexp_c hr2 hs2 _ (by exact (tabs7 (gr_drewN _ g1) HT.out htab).1) (by exact (tabs7 (gr_drewN _ g1) HT.out htab).2)).mono ?_); rintro e w' ⟨r3, s3, rfl, hr3, hs3, g2⟩))
    go_ret
    exact ⟨_, _, rfl, by rw [HX.out, H1.out, H2.out]; first | exact hr3 | exact Rep.cone, by rw [HY.out, H1.out, H2.out]; first | exact hs3 | exact Rep.c0, by first | exact gr_trans (gr_drewN _ g1) g2 | exact Grown.refl w⟩
end
end Go.Proofs.YtndknkdfbjfjcaaGreatDoor
